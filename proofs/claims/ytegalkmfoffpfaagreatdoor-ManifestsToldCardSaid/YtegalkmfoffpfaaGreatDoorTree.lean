/- Manifests checked; the sums of files; sums put together two by two. -/
import Derived.Test.YtegalkmfoffpfaaGreatDoorFilesWalk
import Derived.Test.YtegalkmfoffpfaaGreatDoorHash
import Derived.Test.YtegalkmfoffpfaaGreatDoorBuild
namespace Go.Proofs.YtegalkmfoffpfaaGreatDoor
open Go.RowKit

/-- The one number of math/bits' table that FormatUint at base 16 reads. -/
def Tab (w : World) : Prop := w.cell? ⟨5, 15, none⟩ = some (.int .u8 4)
theorem Tab.below {w w' : World} (h : Tab w) (hb : Below w.heap.size w w') : Tab w' := (hb.cell (p := ⟨5, 15, none⟩) (World.block_lt_of_cell? w _ h)).trans h
theorem Tab.belowAt {w w' : World} {B : Nat} (h : Tab w) (hb : Below B w w') (hB : 5 < B) : Tab w' := (hb.cell (p := ⟨5, 15, none⟩) hB).trans h
theorem Tab.lt {w : World} (h : Tab w) : 5 < w.heap.size := World.block_lt_of_cell? w _ h

theorem sumS_size (s : ByteArray) : (sumS s).size = 16 := by
  have hx := hexOf_size (hashOf s.data.toList).toNat
  rw [sumS, ByteArray.size_append]
  have : (ByteArray.mk (Lib.repeatL [48] (16 - (hexOf (hashOf s.data.toList).toNat).size)).toArray).size = 16 - (hexOf (hashOf s.data.toList).toNat).size := by
    show (Lib.repeatL [48] _).toArray.size = _
    rw [List.size_toArray, Lib.repeatL_length]; simp
  omega

/-! ### CheckManifest -/
def manF (no : Int) (fs : List FileD) : Int := if outsideB no 0 1000000 then 1 else filesF fs
set_option maxRecDepth 100000 in
set_option maxHeartbeats 1000000 in
theorem checkManifest_any (no : Int) (A : Option Addr) (lo c : Nat) (fs : List FileD) (w : World) (hf : FilesAt w lo (.slice A fs.length c) fs) (hok : FilesOk fs) (hn : fs.length ≤ 300) :
    Calls Tryz.prog 44 #[.agg #[.int .i64 no, .slice A fs.length c]] w fun e w' => e = .returned (.int .i64 (manF no fs)) ∧ Below w.heap.size w w' := by
  have HF := Lib.hid hf
  have HOK := Lib.hid hok
  clear hf hok
  rcases Bool.eq_false_or_eq_true (outsideB no 0 1000000) with ho | ho
  · have HV := Lib.hid (show manF no fs = 1 by rw [manF, ho]; rfl)
    go_enter Tryz.func44, Tryz.ntmps44
    go_wp2_with fail
    refine (outside_any no 0 1000000 _).mono ?_
    rintro e w' ⟨rfl, rfl⟩
    rw [ho]
    go_wp2_with fail
    go_ret
    exact ⟨ret_int HV.out.symm, (Below.refl _ _).alloc (Nat.le_refl _) _⟩
  · have HV := Lib.hid (show manF no fs = filesF fs by rw [manF, ho]; rfl)
    go_enter Tryz.func44, Tryz.ntmps44
    go_wp2_with fail
    refine (outside_any no 0 1000000 _).mono ?_
    rintro e w' ⟨rfl, rfl⟩
    rw [ho]
    go_wp2_with fail
    have hb0 : Below w.heap.size w (w.alloc (.cells #[.int .i64 no, .slice A fs.length c] 28)) := (Below.refl _ _).alloc (Nat.le_refl _) _
    refine (filesFault_any A lo c fs _ (HF.out.below hb0) HOK.out hn).mono ?_
    rintro e w1 ⟨rfl, hb1⟩
    go_wp2_with fail
    go_ret
    exact ⟨ret_int HV.out.symm, hb0.trans (hb1.mono (by simp))⟩
set_option maxRecDepth 100000 in
set_option maxHeartbeats 1000000 in
theorem manifestFault_any (no : Int) (A : Option Addr) (lo c : Nat) (fs : List FileD) (w : World) (hf : FilesAt w lo (.slice A fs.length c) fs) (hok : FilesOk fs) (hn : fs.length ≤ 300) :
    Calls Tryz.prog 10 #[.agg #[.int .i64 no, .slice A fs.length c]] w fun e w' => e = .returned (.int .i64 (manF no fs)) ∧ Below w.heap.size w w' := by
  have HF := Lib.hid hf
  have HOK := Lib.hid hok
  clear hf hok
  rcases Bool.eq_false_or_eq_true (outsideB no 0 1000000) with ho | ho
  · have HV := Lib.hid (show manF no fs = 1 by rw [manF, ho]; rfl)
    go_enter Tryz.func10, Tryz.ntmps10
    go_wp2_with fail
    refine (in_any no 0 1000000 _).mono ?_
    rintro e w' ⟨rfl, rfl⟩
    rw [ho]
    go_wp2_with fail
    go_ret
    exact ⟨ret_int HV.out.symm, (Below.refl _ _).alloc (Nat.le_refl _) _⟩
  · have HV := Lib.hid (show manF no fs = filesF fs by rw [manF, ho]; rfl)
    go_enter Tryz.func10, Tryz.ntmps10
    go_wp2_with fail
    refine (in_any no 0 1000000 _).mono ?_
    rintro e w' ⟨rfl, rfl⟩
    rw [ho]
    go_wp2_with fail
    have hb0 : Below w.heap.size w (w.alloc (.cells #[.int .i64 no, .slice A fs.length c] 28)) := (Below.refl _ _).alloc (Nat.le_refl _) _
    refine (filesFaultOf_any A lo c fs _ (HF.out.below hb0) HOK.out hn).mono ?_
    rintro e w1 ⟨rfl, hb1⟩
    go_wp2_with fail
    go_ret
    exact ⟨ret_int HV.out.symm, hb0.trans (hb1.mono (by simp))⟩

/-! ### The sum of a file -/
def leafTo (f : FileD) (j : Nat) : List UInt8 := f.1.data.toList ++ (f.2.take j).flatMap fun c => 10 :: c.1.data.toList
def leafS (f : FileD) : ByteArray := sumS ⟨(leafTo f f.2.length).toArray⟩
theorem leafTo_succ (f : FileD) {j : Nat} (h : j < f.2.length) : leafTo f (j + 1) = leafTo f j ++ (10 :: f.2[j].1.data.toList) := by
  unfold leafTo
  rw [List.take_succ_eq_append_getElem h, List.flatMap_append, List.flatMap_cons, List.flatMap_nil, List.append_nil, List.append_assoc]
theorem leafTo_len (f : FileD) (h : ∀ c ∈ f.2, c.1.size ≤ 16) : ∀ j, (leafTo f j).length ≤ f.1.size + 17 * j := by
  intro j
  induction j with
  | zero => simp [leafTo]
  | succ j ih =>
    by_cases hj : j < f.2.length
    · rw [leafTo_succ f hj, List.length_append, List.length_cons]
      have h1 := h _ (List.getElem_mem hj)
      have h2 : f.2[j].1.data.toList.length = f.2[j].1.size := rfl
      omega
    · have e : leafTo f (j + 1) = leafTo f j := by
        unfold leafTo
        rw [List.take_of_length_le (l := f.2) (i := j + 1) (by omega), List.take_of_length_le (l := f.2) (i := j) (by omega)]
      rw [e]; omega
/-- Files as the maker has them. -/
def Short (f : FileD) : Prop := f.1.size ≤ 16 ∧ f.2.length ≤ 3 ∧ ∀ c ∈ f.2, c.1.size ≤ 16

def LeafRel (f : FileD) (w : World) (B : Nat) (g : Nat) (i : Value) (wr : World) : Prop :=
  ∃ j : Nat, j + g = f.2.length ∧ i = .int .i64 j ∧ Lib.IsBuilder 140 5 B B (Lib.byteCells (leafTo f j)) wr ∧ Below B w wr ∧ B ≤ wr.heap.size
def FsumRel (f : FileD) (w : World) (g : Nat) (i s : Value) (wr : World) : Prop :=
  ∃ j : Nat, j + g = f.2.length ∧ i = .int .i64 j ∧ s = .string ⟨(leafTo f j).toArray⟩ ∧ Below w.heap.size w wr

set_option maxRecDepth 100000 in
set_option maxHeartbeats 1000000 in
theorem fileSum_any (f : FileD) (B : Option Addr) (lo n d : Nat) (w : World) (ht : Tab w) (hL : Lst w lo 2 (.slice B n d) (f.2.flatMap chC)) (hn : n = f.2.length) (hsh : Short f) :
    Calls Tryz.prog 98 #[.agg #[.string f.1, .slice B n d]] w fun e w' => e = .returned (.string (leafS f)) ∧ Below w.heap.size w w' := by
  have HL := Lib.hid hL
  have HN := Lib.hid hn
  have hn3 : n ≤ 3 := hn ▸ hsh.2.1
  have HS := Lib.hid hsh
  have HT := Lib.hid ht
  clear hL hn hsh ht
  go_enter Tryz.func98, Tryz.ntmps98
  go_wp2_with fail
  go_loopg [11, 3, 5] f.2.length (fun g i s _ wr => FsumRel f w g i s wr)
  case atStart => exact ⟨0, by omega, rfl, by simp [leafTo], (Below.refl _ _).alloc (Nat.le_refl _) _⟩
  case round =>
    obtain ⟨j, hj, rfl, rfl, hb⟩ := hrel
    have hnn := HN.out
    have hlen := leafTo_len f HS.out.2.2 j
    have hk16 := HS.out.1
    have hsz : (ByteArray.mk (leafTo f j).toArray).size ≤ 16 + 17 * 3 := by
      show (leafTo f j).toArray.size ≤ _
      simp; omega
    by_cases hg : gk = 0
    · obtain rfl : j = n := by omega
      have HE := Lib.hid (show leafS f = sumS ⟨(leafTo f j).toArray⟩ by rw [leafS, hnn])
      clear hlen hj hnn hg
      generalize ByteArray.mk (leafTo f j).toArray = t at *
      go_wp2_with fail
      refine (rsum_any t (by omega) _ (HT.out.below hb)).mono ?_
      rintro e w1 ⟨rfl, hb1⟩
      go_wp2_with fail
      go_ret
      exact ⟨by rw [HE.out]; rfl, hb.trans (hb1.mono hb.size)⟩
    · have hjl : j < f.2.length := by omega
      obtain ⟨g2, o2, rfl, hg2, e0, e1⟩ := HL.out.chunk hjl hnn
      have f0 := (hb.cell (p := ⟨g2, o2 + j * 2, none⟩) hg2).trans e0
      have f1 := (hb.cell (p := ⟨g2, o2 + j * 2 + 1, none⟩) hg2).trans e1
      have hc16 := HS.out.2.2 _ (List.getElem_mem hjl)
      have HST := Lib.hid (leafTo_succ f hjl)
      have HJ := Lib.hid hj
      have hgk : gk ≠ 0 := hg
      have hjn : j < n := by omega
      have hbz := hb.size
      have HEQ : Hid (∃ t, t = ByteArray.mk (leafTo f j).toArray ∧ ⟨(leafTo f (j + 1)).toArray⟩ = t ++ (⟨#[10]⟩ ++ f.2[j].1)) := ⟨_, rfl, by rw [HST.out]; apply ByteArray.ext; simp⟩
      clear e0 e1 hg hj hnn hlen HST
      generalize f.2[j] = cj at *
      generalize hT : ByteArray.mk (leafTo f j).toArray = t at *
      clear hT
      go_wp2_with fail
      go_roundg (gk - 1)
      case measure => omega
      case rel => 
        obtain ⟨t', rfl, h2⟩ := HEQ.out
        exact ⟨j + 1, by have := HJ.out; omega, by go_num, by rw [h2], hb.alloc hbz _⟩

set_option maxRecDepth 100000 in
set_option maxHeartbeats 1000000 in
theorem leaf_any (f : FileD) (B : Option Addr) (lo n d : Nat) (w : World) (ht : Tab w) (hL : Lst w lo 2 (.slice B n d) (f.2.flatMap chC)) (hn : n = f.2.length) (hsh : Short f) :
    Calls Tryz.prog 94 #[.agg #[.string f.1, .slice B n d]] w fun e w' => e = .returned (.string (leafS f)) ∧ Below w.heap.size w w' := by
  have HL := Lib.hid hL
  have HN := Lib.hid hn
  have hn3 : n ≤ 3 := hn ▸ hsh.2.1
  have HS := Lib.hid hsh
  have HT := Lib.hid ht
  have hk16 := hsh.1
  clear hL hn hsh ht
  go_enter Tryz.func94, Tryz.ntmps94
  go_wp2_with fail
  obtain ⟨W, hW⟩ : ∃ W, W = w.alloc (.cells #[.string f.1, .slice B n d] 52) := ⟨_, rfl⟩
  have hWs : W.heap.size = w.heap.size + 1 := by rw [hW]; simp
  have hbW : Below w.heap.size w W := by rw [hW]; exact (Below.refl _ _).alloc (Nat.le_refl _) _
  have hcW : W.cell? ⟨w.heap.size, 1, none⟩ = some (.slice B n d) := by rw [hW]; exact cell_new_list w _ _ 1 _ rfl
  rw [← hW]
  clear hW
  have hbd0 := isBuilder_new 140 5 W
  refine (writeString_any (w.heap.size + 1) (w.heap.size + 1) [] f.1 _ (by rw [hWs] at hbd0; exact hbd0) (by simp; omega) (by simp; omega)).mono ?_
  rintro e w1 ⟨rfl, hbd1, hb1⟩
  have hb2 : Below (w.heap.size + 1) W w1 := ((Below.refl (w.heap.size + 1) W).alloc (by omega) _).trans hb1
  have hc2 : w1.cell? ⟨w.heap.size, 1, none⟩ = some (.slice B n d) := (hb2.cell (p := ⟨w.heap.size, 1, none⟩) (by show w.heap.size < _; omega)).trans hcW
  have hBD : Lib.IsBuilder 140 5 (w.heap.size + 1) (w.heap.size + 1) (Lib.byteCells (leafTo f 0)) w1 := by
    have e : leafTo f 0 = f.1.data.toList := by simp [leafTo]
    rw [e]; simpa [Lib.strCells_eq] using hbd1
  have hz2 := hb2.size
  have HBD := Lib.hid hBD
  clear hbd0 hbd1 hb1 hBD
  go_wp2_with fail
  go_loopg [12, 5] f.2.length (fun g i _ wr => LeafRel f W (w.heap.size + 1) g i wr)
  case atStart => exact ⟨0, by omega, rfl, HBD.out, hb2, by omega⟩
  case round =>
    obtain ⟨j, hj, rfl, hbd, hb, hbz⟩ := hrel
    have hnn := HN.out
    have hlen := leafTo_len f HS.out.2.2 j
    by_cases hg : gk = 0
    · obtain rfl : j = n := by omega
      have HE := Lib.hid (show leafS f = sumS ⟨(leafTo f j).toArray⟩ by rw [leafS, hnn])
      clear hj hnn hg
      go_wp2_with fail
      refine (Tryz.Builder_String_any _ _ _ _ hbd hbz).mono ?_
      rintro e w3 ⟨rfl, hb3⟩
      have hb4 := hb.trans hb3
      have hsz : (ByteArray.mk (leafTo f j).toArray).size ≤ 16 + 17 * 3 := by
        show (leafTo f j).toArray.size ≤ _
        simp; omega
      have hb5 : Below w.heap.size w w3 := hbW.trans (hb4.mono (by omega))
      generalize ByteArray.mk (leafTo f j).toArray = t at *
      go_wp2_with fail
      refine (sumOf_any t (by omega) _ (HT.out.below hb5)).mono ?_
      rintro e w4 ⟨rfl, hb6⟩
      go_wp2_with fail
      go_ret
      exact ⟨by rw [HE.out]; rfl, hb5.trans (hb6.mono hb5.size)⟩
    · have hjl : j < f.2.length := by omega
      obtain ⟨g2, o2, rfl, hg2, e0, e1⟩ := HL.out.chunk hjl hnn
      have hb5 : Below w.heap.size w wr := hbW.trans (hb.mono (by omega))
      have f0 := (hb5.cell (p := ⟨g2, o2 + j * 2, none⟩) hg2).trans e0
      have f1 := (hb5.cell (p := ⟨g2, o2 + j * 2 + 1, none⟩) hg2).trans e1
      have hc16 := HS.out.2.2 _ (List.getElem_mem hjl)
      have HST := Lib.hid (leafTo_succ f hjl)
      have HJ := Lib.hid hj
      have hgk : gk ≠ 0 := hg
      have hjn : j < n := by omega
      have HBD3 := Lib.hid hbd
      clear e0 e1 hg hj hnn hbd HBD
      generalize f.2[j] = cj at *
      go_wp2_with fail
      have hs1 : (ByteArray.mk #[10] ++ cj.1).size ≤ 17 := by
        have h1 : (ByteArray.mk #[10]).size = 1 := rfl
        rw [ByteArray.size_append, h1]; omega
      have HEQ := Lib.hid (show leafTo f (j + 1) = leafTo f j ++ (ByteArray.mk #[10] ++ cj.1).data.toList by rw [HST.out]; simp)
      have hs2 : (Lib.byteCells (leafTo f j)).length ≤ 100 := by rw [Lib.byteCells_length]; omega
      generalize ByteArray.mk #[10] ++ cj.1 = t at *
      refine (writeString_any (w.heap.size + 1) (w.heap.size + 1) _ t _ (isBuilder_alloc HBD3.out _) (by omega) (by simp; omega)).mono ?_
      rintro e w3 ⟨rfl, hbd3, hb6⟩
      have HB3 : Hid (Lib.IsBuilder 140 5 (w.heap.size + 1) (w.heap.size + 1) (Lib.byteCells (leafTo f (j + 1))) w3) := by
        have e := HEQ.out
        have hbd4 := hbd3
        rw [Lib.strCells_eq] at hbd4
        show Lib.IsBuilder _ _ _ _ _ _
        rw [e]; simpa [Lib.byteCells] using hbd4
      have hb7 := (hb.alloc hbz _).trans hb6
      have hz7 := hb6.size
      simp at hz7
      clear hbd3 HBD3
      go_wp2_with fail
      go_roundg (gk - 1)
      case measure => omega
      case rel => exact ⟨j + 1, by have := HJ.out; omega, by go_num, HB3.out, hb7, by omega⟩
end Go.Proofs.YtegalkmfoffpfaaGreatDoor
