/- haveFault, HaveFault; Missing, MissingOf. -/
import Derived.Test.YtegalkmfoffpfaaGreatDoorEach
import Derived.Test.YtegalkmfoffpfaaGreatDoorDel2
import Derived.Test.YtegalkmfoffpfaaGreatDoorShelf
namespace Go.Proofs.YtegalkmfoffpfaaGreatDoor
open Go.RowKit Go.Maps Go.WideMaps

def suF (have_ : List ByteArray) : Nat → Int := fun j => if sumB (have_.getD j ⟨#[]⟩) then 0 else 3
def haveF (have_ : List ByteArray) : Int := if 2000 < have_.length then 2 else firstTo (suF have_) have_.length
theorem suF_at (l : List ByteArray) {k : Nat} (h : k < l.length) : suF l k = if sumB l[k] then 0 else 3 := by
  show (if sumB (l.getD k ⟨#[]⟩) then (0 : Int) else 3) = _
  rw [show l.getD k ⟨#[]⟩ = l[k] by simp [List.getD, List.getElem?_eq_getElem h]]
def mhF (no : Int) (fs : List FileD) (hv : List ByteArray) : Int := if manF no fs = 0 then haveF hv else manF no fs
def strC (l : List ByteArray) : List Value := l.map Value.string
theorem str_at {w : World} {lo n c k : Nat} {A : Option Addr} {ss : List ByteArray} (h : Lst w lo 1 (.slice A n c) (strC ss)) (hn : n = ss.length) (hk : k < ss.length) :
    ∃ g o, A = some ⟨g, o, none⟩ ∧ g < w.heap.size ∧ w.cell? ⟨g, o + k, none⟩ = some (.string ss[k]) := by
  obtain ⟨g, o, u, rfl, _, hgl, hu, hc⟩ := h.at_ (k := k) (by omega)
  obtain rfl : u = .string ss[k] := by
    rw [strC, List.getElem?_map, List.getElem?_eq_getElem hk] at hu
    simpa using hu.symm
  exact ⟨g, o, rfl, hgl, hc⟩
def HvRel (hv : List ByteArray) (w : World) (g : Nat) (i : Value) (wr : World) : Prop :=
  ∃ k : Nat, k + g = hv.length ∧ i = .int .i64 k ∧ firstTo (suF hv) k = 0 ∧ Below w.heap.size w wr
set_option maxRecDepth 100000 in
set_option maxHeartbeats 2000000 in
theorem haveFaultS_any (no : Int) (A B : Option Addr) (lo c d : Nat) (fs : List FileD) (hv : List ByteArray) (w : World) (hf : FilesAt w lo (.slice A fs.length c) fs) (hok : FilesOk fs) (hn : fs.length ≤ 300)
    (hh : Lst w lo 1 (.slice B hv.length d) (strC hv)) (hl : hv.length ≤ 1000) (hsz : ∀ s ∈ hv, s.size ≤ 1000) :
    Calls Tryz.prog 119 #[.agg #[.int .i64 no, .slice A fs.length c], .slice B hv.length d] w fun e w' => e = .returned (.int .i64 (mhF no fs hv)) ∧ Below w.heap.size w w' := by
  have HF := Lib.hid hf
  have HOK := Lib.hid hok
  have HH := Lib.hid hh
  have HSZ := Lib.hid hsz
  clear hf hok hh hsz
  go_enter Tryz.func119, Tryz.ntmps119
  go_wp2_with fail
  have hb0 := bfirst w (.cells #[.int .i64 no, .slice A fs.length c] 28)
  refine (checkManifest_any no A lo c fs _ (HF.out.below hb0) HOK.out hn).mono ?_
  rintro e w1 ⟨rfl, hb1⟩
  have B1 := bon hb0 hb1
  by_cases hm : manF no fs = 0
  · have HV := Lib.hid (show mhF no fs hv = firstTo (suF hv) hv.length by rw [mhF, if_pos hm, haveF, if_neg (by omega)])
    rw [hm]
    clear hm hb0 hb1
    go_wp2_with fail
    go_loopg [18, 7] hv.length (fun g i _ wr => HvRel hv w g i wr)
    case atStart => exact ⟨0, by omega, rfl, rfl, B1⟩
    case round =>
      obtain ⟨k, hk, rfl, h0, hb⟩ := hrel
      by_cases hg : gk = 0
      · obtain rfl : k = hv.length := by omega
        have HV2 := Lib.hid (HV.out.trans h0)
        clear hk h0 hg
        go_wp2_with fail
        go_ret
        exact ⟨ret_int HV2.out.symm, hb⟩
      · have hlt : k < hv.length := by omega
        obtain ⟨g, o, rfl, hgl, hc⟩ := str_at (HH.out.below hb) rfl hlt
        have HS := Lib.hid (suF_at hv hlt)
        have hs9 := HSZ.out _ (List.getElem_mem hlt)
        have HK := Lib.hid hk
        have H0 := Lib.hid h0
        have hgk : gk ≠ 0 := hg
        clear hk h0 hg
        generalize hv[k] = s at *
        go_wp2_with fail
        refine (isSum_any s (by omega) _).mono ?_
        rintro e w5 ⟨rfl, hb5⟩
        rcases Bool.eq_false_or_eq_true (sumB s) with h | h
        · have HN := Lib.hid (firstTo_succ H0.out (by rw [HS.out, h]; rfl))
          rw [h]
          clear h
          go_wp2_with fail
          go_roundg (gk - 1)
          case measure => omega
          case rel => exact ⟨k + 1, by have := HK.out; omega, by go_num, HN.out, bon hb hb5⟩
        · have HN := Lib.hid (show mhF no fs hv = 3 by rw [HV.out, firstTo_at hlt H0.out (by rw [HS.out, h]; decide), HS.out, h]; rfl)
          rw [h]
          clear h
          go_wp2_with fail
          go_ret
          exact ⟨ret_int HN.out.symm, bon hb hb5⟩
  · have HV := Lib.hid (show mhF no fs hv = manF no fs by rw [mhF, if_neg hm])
    have hm' : (manF no fs != 0) = true := bne_iff_ne.2 hm
    clear hm
    go_wp2_with fail
    go_ret
    exact ⟨ret_int HV.out.symm, B1⟩
set_option maxRecDepth 100000 in
theorem sumNot_any (s : ByteArray) (w : World) (hs : s.size ≤ 1000) : Calls Tryz.prog 124 #[.string s] w fun e w' => e = .returned (.bool (!sumB s)) ∧ Below w.heap.size w w' := by
  go_enter Tryz.func124, Tryz.ntmps124
  go_wp2_with fail
  refine (SumRight_any s (by omega) _).mono ?_
  rintro e w1 ⟨rfl, hb1⟩
  go_wp2_with fail
  go_ret
  exact ⟨rfl, hb1⟩
/-- The first of some that is not right, found as 'is there one'. -/
theorem any_first {f : Nat → Int} {p : Nat → Bool} {z : Int} (hz : z ≠ 0) (h : ∀ i, f i = if p i then z else 0) (n : Nat) : (if anyI p n then z else 0) = firstTo f n := by
  rcases idx_cases (p := p) n with ⟨he, hall⟩ | ⟨k, hk, he, hp, hno⟩
  · have : ∀ m, m ≤ n → firstTo f m = 0 := by
      intro m
      induction m with
      | zero => intro _; rfl
      | succ m ih => intro hm; exact firstTo_succ (ih (by omega)) (by rw [h, hall m (by omega)]; rfl)
    rw [this n (Nat.le_refl _), anyI, he]; rfl
  · have : ∀ m, m ≤ k → firstTo f m = 0 := by
      intro m
      induction m with
      | zero => intro _; rfl
      | succ m ih => intro hm; exact firstTo_succ (ih (by omega)) (by rw [h, hno m (by omega)]; rfl)
    have e : f k = z := by rw [h, hp]; rfl
    rw [firstTo_at hk (this k (Nat.le_refl _)) (by rw [e]; exact hz), e, anyI, he, decide_eq_true (by omega)]; rfl
theorem strs_at1 {w : World} {lo c : Nat} {A : Option Addr} {hv : List ByteArray} (h : Lst w lo 1 (.slice A hv.length c) (strC hv)) : At1 w A hv.length (fun i => .string (hv.getD i ⟨#[]⟩)) := fun i hi => by
  obtain ⟨g, o, e, hg, hc⟩ := str_at h rfl hi
  have ed : hv.getD i ⟨#[]⟩ = hv[i] := by simp [List.getD, List.getElem?_eq_getElem hi]
  rw [← ed] at hc
  exact ⟨g, o, e, hg, hc⟩
set_option maxRecDepth 100000 in
set_option maxHeartbeats 1000000 in
theorem haveFaultR_any (B : Option Addr) (lo d : Nat) (hv : List ByteArray) (w : World) (hh : Lst w lo 1 (.slice B hv.length d) (strC hv)) (hl : hv.length ≤ 1000) (hsz : ∀ s ∈ hv, s.size ≤ 1000) :
    Calls Tryz.prog 49 #[.slice B hv.length d] w fun e w' => e = .returned (.int .i64 (haveF hv)) ∧ Below w.heap.size w w' := by
  have HC := Lib.hid (containsFuncStr B hv.length d _ (fun i => !sumB (hv.getD i ⟨#[]⟩)) 124 #[] (enters_of Tryz.func124 (by kernel_rfl) rfl) w (strs_at1 hh) (fun W i hi _ => sumNot_any _ W (by
    rw [show hv.getD i ⟨#[]⟩ = hv[i] by simp [List.getD, List.getElem?_eq_getElem hi]]; exact hsz _ (List.getElem_mem hi))) (by omega))
  have HV := Lib.hid (show haveF hv = (if anyI (fun i => !sumB (hv.getD i ⟨#[]⟩)) hv.length then (3 : Int) else 0) by
    rw [any_first (f := suF hv) (by decide) (fun i => by unfold suF; cases sumB (hv.getD i ⟨#[]⟩) <;> rfl), haveF, if_neg (by omega)])
  clear hh hsz
  go_enter Tryz.func49, Tryz.ntmps49
  go_wp2_with fail
  refine HC.out.mono ?_
  rintro e w1 ⟨rfl, hb1⟩
  generalize anyI (fun i => !sumB (hv.getD i ⟨#[]⟩)) hv.length = q at *
  cases q
  all_goals
    go_wp2_with fail
    go_ret
    exact ⟨ret_int HV.out.symm, hb1⟩

/-! ### MissingOf -/
theorem contains_str (B : Option Addr) (lo d : Nat) (hv : List ByteArray) (s : ByteArray) (w : World) (hh : Lst w lo 1 (.slice B hv.length d) (strC hv)) (hl : hv.length ≤ 1000) :
    Calls Tryz.prog 127 #[.slice B hv.length d, .string s] w fun e w' => e = .returned (.bool (hasS hv s)) ∧ w' = w := by
  have key : ∀ l : List ByteArray, Lib.containsS l s = hasS l s := fun l => by
    rw [Bool.eq_iff_iff, Lib.containsS_iff, hasS, List.any_eq_true]
    constructor
    · intro h; exact ⟨s, h, by simp⟩
    · rintro ⟨t, ht, he⟩
      have e := ba_ext (a := t) (b := s) (by simpa using he)
      rw [← e]; exact ht
  rcases Nat.eq_zero_or_pos hv.length with h0 | h0
  · rw [h0]
    refine (Tryz.slices_Contains_string_empty B d s w).mono ?_
    rintro e w' ⟨rfl, rfl⟩
    rw [List.eq_nil_of_length_eq_zero h0]
    exact ⟨rfl, rfl⟩
  · obtain ⟨g, o, rfl, _, _⟩ := str_at hh rfl h0
    refine (Tryz.slices_Contains_string g o hv.length d hv s w (Nat.le_refl _) (by omega) (fun j hj => ?_)).mono ?_
    · obtain ⟨g', o', e, _, hc⟩ := str_at hh rfl hj
      simp only [Option.some.injEq, Addr.mk.injEq, and_true] at e
      obtain ⟨rfl, rfl⟩ := e
      rw [hc]; simp [List.getD, List.getElem?_eq_getElem hj]
    · rintro e w' ⟨rfl, rfl⟩
      rw [List.take_length, key]
      exact ⟨rfl, rfl⟩

set_option maxRecDepth 100000 in
set_option maxHeartbeats 1000000 in
theorem missingIs_any (ck : ByteArray) (cz : Int) (B : Option Addr) (lo d hx : Nat) (hv : List ByteArray) (w : World) (hc : w.cell? ⟨hx, 0, none⟩ = some (.slice B hv.length d)) (hh : Lst w lo 1 (.slice B hv.length d) (strC hv)) (hl : hv.length ≤ 1000) :
    Calls Tryz.prog 126 #[.agg #[.string ck, .int .i64 cz], .pointer (some ⟨hx, 0, none⟩)] w fun e w' => e = .returned (.bool (hasS hv ck)) ∧ Below w.heap.size w w' := by
  have HH := Lib.hid hh
  have hlt := World.block_lt_of_cell? w _ hc
  clear hh
  go_enter Tryz.func126, Tryz.ntmps126
  go_wp2_with fail
  refine (contains_str B lo d hv ck _ (HH.out.below (bfirst _ _)) hl).mono ?_
  rintro e w1 ⟨rfl, rfl⟩
  go_wp2_with fail
  go_ret
  exact ⟨rfl, bfirst _ _⟩
set_option maxRecDepth 100000 in
set_option maxHeartbeats 1000000 in
theorem missingOf_any (no : Int) (A B : Option Addr) (lo c d : Nat) (fs : List FileD) (hv : List ByteArray) (w : World) (hf : FilesAt w lo (.slice A fs.length c) fs) (hok : FilesOk fs) (hn : fs.length ≤ 300)
    (hh : Lst w lo 1 (.slice B hv.length d) (strC hv)) (hl : hv.length ≤ 1000) (hc9 : (allC fs).length ≤ 1000) :
    Calls Tryz.prog 51 #[.agg #[.int .i64 no, .slice A fs.length c], .slice B hv.length d] w fun e w' => ∃ v, e = .returned v ∧ Lst w' w.heap.size 2 v (((newTo [] (allC fs)).filter fun x => !hasS hv x.1).flatMap chC) ∧ Below w.heap.size w w' := by
  have HF := Lib.hid hf
  have HOK := Lib.hid hok
  have HH := Lib.hid hh
  have hl9 := newTo_len [] (allC fs)
  clear hf hok hh
  go_enter Tryz.func51, Tryz.ntmps51
  go_wp2_with fail
  have hb0 := bbox (bfirst w (.cells #[.int .i64 no, .slice A fs.length c] 28)) (.cells #[.slice B hv.length d] 88)
  refine (each_any no A lo c fs _ (HF.out.below hb0) HOK.out hn).mono ?_
  rintro e w1 ⟨v, rfl, hown, hb1⟩
  have B1 := bon hb0 hb1
  have cH : w1.cell? ⟨w.heap.size + 1, 0, none⟩ = some (.slice B hv.length d) := by
    have := bboxed hb1 0 (.slice B hv.length d) rfl
    simpa using this
  have HB0 := Lib.hid hb0
  have hz1 := hb1.size
  simp only [World.size_alloc] at hown hz1
  obtain ⟨C, m, q, rfl⟩ := own_form hown
  obtain rfl : m = (newTo [] (allC fs)).length := own_len hown
  have HO := Lib.hid (ownsRow_base hown (show w.heap.size + 2 ≤ w.heap.size + 1 + 1 by omega))
  clear hb1 hb0 hown
  go_wp2_with fail
  refine (deleteChunk_any C (w.heap.size + 2) q _ (fun x => hasS hv x.1) 126 #[.pointer (some ⟨w.heap.size + 1, 0, none⟩)] (enters_of Tryz.func126 (by kernel_rfl) rfl) _ HO.out (fun W x hx hb => ?_) (by omega) (by omega)).mono ?_
  · have hbW : Below w.heap.size w W := B1.trans (hb.mono (by omega))
    exact missingIs_any x.1 x.2 B lo d (w.heap.size + 1) hv W ((hb.cell (p := ⟨w.heap.size + 1, 0, none⟩) (by show w.heap.size + 1 < _; omega)).trans cH) (HH.out.below hbW) hl
  · rintro e w2 ⟨v2, rfl, hL2, hb2⟩
    have HL2 := Lib.hid hL2
    clear hL2
    go_wp2_with fail
    go_ret
    exact ⟨_, rfl, HL2.out.mono (show w.heap.size ≤ w.heap.size + 2 by omega), B1.trans (hb2.mono (show w.heap.size ≤ w.heap.size + 2 by omega))⟩

/-! ### Missing -/
set_option maxRecDepth 100000 in
set_option maxHeartbeats 1000000 in
theorem missing_no (no : Int) (A B : Option Addr) (lo c d : Nat) (fs : List FileD) (hv : List ByteArray) (w : World) (hf : FilesAt w lo (.slice A fs.length c) fs) (hok : FilesOk fs) (hn : fs.length ≤ 300)
    (hh : Lst w lo 1 (.slice B hv.length d) (strC hv)) (hl : hv.length ≤ 1000) (hsz : ∀ s ∈ hv, s.size ≤ 1000) (hm : (mhF no fs hv != 0) = true) :
    Calls Tryz.prog 47 #[.agg #[.int .i64 no, .slice A fs.length c], .slice B hv.length d] w fun e w' => e = .returned (.tuple #[.slice none 0 0, .int .i64 (mhF no fs hv)]) ∧ Below w.heap.size w w' := by
  have HF := Lib.hid hf
  have HOK := Lib.hid hok
  have HH := Lib.hid hh
  have HSZ := Lib.hid hsz
  clear hf hok hh hsz
  go_enter Tryz.func47, Tryz.ntmps47
  go_wp2_with fail
  have hb0 := bfirst w (.cells #[.int .i64 no, .slice A fs.length c] 28)
  refine (haveFaultS_any no A B lo c d fs hv _ (HF.out.below hb0) HOK.out hn (HH.out.below hb0) hl HSZ.out).mono ?_
  rintro e w1 ⟨rfl, hb1⟩
  go_wp2_with fail
  go_ret2
  exact ⟨rfl, bon hb0 hb1⟩
def MhRel (hv : List ByteArray) (w : World) (mb : Nat) (g : Nat) (i : Value) (wr : World) : Prop :=
  ∃ (k : Nat) (S : List ByteArray), k + g = hv.length ∧ i = .int .i64 k ∧ IsSet wr mb k S ∧ (∀ s, hasS S s = hasS (hv.take k) s) ∧ Below mb w wr ∧ w.heap.size ≤ wr.heap.size
set_option maxRecDepth 100000 in
set_option maxHeartbeats 4000000 in
theorem missing_any (no : Int) (A B : Option Addr) (lo c d : Nat) (fs : List FileD) (H : List ByteArray) (w : World) (hf : FilesAt w lo (.slice A fs.length c) fs) (hok : FilesOk fs) (hn : fs.length ≤ 300)
    (hh : Lst w lo 1 (.slice B H.length d) (strC H)) (hl : H.length ≤ 1000) (hsz : ∀ s ∈ H, s.size ≤ 1000) (hm : mhF no fs H = 0) :
    Calls Tryz.prog 47 #[.agg #[.int .i64 no, .slice A fs.length c], .slice B H.length d] w fun e w' => ∃ v, e = .returned (.tuple #[v, .int .i64 0]) ∧ w'.ownsRow w.heap.size 49 2 v (newTo H (allC fs)).length ((newTo H (allC fs)).flatMap chC) ∧ Below w.heap.size w w' := by
  have hmm := @run_makeMap Tryz.prog
  have HF := Lib.hid hf
  have HOK := Lib.hid hok
  have HH := Lib.hid hh
  have HSZ := Lib.hid hsz
  have HM := Lib.hid hm
  clear hf hok hh hsz hm
  obtain ⟨i0, hi, hz0, hz1, hz2⟩ := info_parts infoChunk
  go_enter Tryz.func47, Tryz.ntmps47
  go_wp2_with fail
  have hb0 := bfirst w (.cells #[.int .i64 no, .slice A fs.length c] 28)
  refine (haveFaultS_any no A B lo c d fs H _ (HF.out.below hb0) HOK.out hn (HH.out.below hb0) hl HSZ.out).mono ?_
  rintro e w1 ⟨rfl, hb1⟩
  rw [HM.out]
  have B1 := bon hb0 hb1
  have m0 := bboxed hb1 0 _ rfl
  have m1 := bboxed hb1 1 _ rfl
  have lm := blt hb1
  clear hb0 hb1
  go_wp2_with fail
  have B2 := bbox B1 (.map #[] 0)
  have HS2 := Lib.hid (IsSet.new w1)
  obtain ⟨mb, hmb⟩ : ∃ mb, mb = w1.heap.size := ⟨_, rfl⟩
  have hmbz : w.heap.size < mb := by omega
  have m0' := bold (bfirst w1 (.map #[] 0)) m0
  have m1' := bold (bfirst w1 (.map #[] 0)) m1
  rw [← hmb] at HS2 ⊢
  clear m0 m1 B1 hmb
  generalize w1.alloc (.map #[] 0) = w2 at *
  go_loopg [24, 9] H.length (fun g i _ wr => MhRel H w2 mb g i wr)
  case atStart => exact ⟨0, [], by omega, rfl, HS2.out, by simp [hasS], Below.refl _ _, Nat.le_refl _⟩
  case round =>
    clear HS2
    obtain ⟨k, S, hk, rfl, hset, hS, hb, hz⟩ := hrel
    have hbw : Below w.heap.size w wr := B2.trans (hb.mono (by omega))
    have n0 := (hb.cell (p := ⟨w.heap.size, 0, none⟩) hmbz).trans m0'
    have n1 := (hb.cell (p := ⟨w.heap.size, 1, none⟩) hmbz).trans m1'
    have ln : w.heap.size < wr.heap.size := World.block_lt_of_cell? wr _ n0
    by_cases hg : gk = 0
    · obtain rfl : k = H.length := by omega
      rw [List.take_length] at hS
      have HSET := Lib.hid hset
      have HS := Lib.hid hS
      clear hk hset hS hg hb
      obtain ⟨wa, rfl⟩ : ∃ wa : World, wa = wr := ⟨_, rfl⟩
      obtain ⟨ga, rfl⟩ : ∃ ga, ga = gk := ⟨_, rfl⟩
      have hmbz : w.heap.size ≤ mb := by omega
      go_wp2_with fail
      go_loopg [34, 10, 12, 14, 41] fs.length (fun g i out _ _ _ wr => EoRel H fs w mb H.length g i out wr)
      case atStart => exact ⟨0, S, by omega, rfl, by simpa using HSET.out, by intro s; rw [show newTo H (chunksTo fs 0) = [] from rfl]; simpa using HS.out s, World.ownsRow_nil _ _ _ _, hbw⟩
      case round =>
        clear HSET
        obtain ⟨k, S, hk, rfl, hset, hS, hown, hb⟩ := hrel
        by_cases hg : gk = 0
        · obtain rfl : k = fs.length := by omega
          have HO := Lib.hid hown
          clear hk hg hown hset hS
          go_wp2_with fail
          (go_ret2; exact ⟨_, rfl, HO.out, hb⟩)
        · have hlt : k < fs.length := by omega
          have hl9 := chunksTo_len fs HOK.out k
          obtain ⟨g, o, B, m, d, rfl, hgl, cK0, cC0, hm, hL⟩ := HF.out.at_ hlt
          have cK := (hb.cell (p := ⟨g, o + k * 2, none⟩) hgl).trans cK0
          have cC := (hb.cell (p := ⟨g, o + k * 2 + 1, none⟩) hgl).trans cC0
          have HK := Lib.hid hk
          have HSET := Lib.hid hset
          have HS := Lib.hid hS
          have HOW := Lib.hid hown
          obtain rfl := hm
          have HL := Lib.hid hL
          have hgk : gk ≠ 0 := hg
          have hcok : ∀ c ∈ fs[k].2, c.1.size ≤ 1000000000000 ∧ -1000000000000000 ≤ c.2 ∧ c.2 ≤ 1000000000000000 := (HOK.out _ (List.getElem_mem hlt)).2.2
          have hclen := (HOK.out _ (List.getElem_mem hlt)).2.1
          have HCT := Lib.hid (chunksTo_succ fs k hlt)
          have hkn : k ≤ 300 := by omega
          clear hk hset hS hL hg hown cK0 cC0
          generalize fs[k] = fk at *
          obtain ⟨key, cs⟩ := fk
          have HCT2 : Hid (chunksTo fs (k + 1) = chunksTo fs k ++ cs) := HCT.out
          have HL2 : Hid (Lst w lo 2 (.slice B cs.length d) (cs.flatMap chC)) := HL.out
          have hclen2 : cs.length ≤ 1000000000 := hclen
          have HCO : Hid (∀ c ∈ cs, c.1.size ≤ 1000000000000 ∧ -1000000000000000 ≤ c.2 ∧ c.2 ≤ 1000000000000000) := hcok
          clear HCT HL hclen hcok
          go_wp2_with fail
          have hb2 := bbox hb (.cells #[.string key, .slice B cs.length d] 52)
          obtain ⟨nb, hnb⟩ : ∃ nb, nb = H.length + k * 1000000000 := ⟨_, rfl⟩
          rw [← hnb] at HSET
          have hnb1 : nb + cs.length ≤ H.length + (k + 1) * 1000000000 := by omega
          have hnb2 : nb ≤ 500000000000 := by omega
          have HNB := Lib.hid hnb
          have HNB1 := Lib.hid hnb1
          clear hnb hnb1
          have HSET2 := Lib.hid (HSET.out.alloc (.cells #[.string key, .slice B cs.length d] 52))
          have HOW2 := Lib.hid (HOW.out.alloc (.cells #[.string key, .slice B cs.length d] 52))
          clear cK cC HSET HOW
          obtain ⟨wo, rfl⟩ : ∃ wo : World, wo = wr := ⟨_, rfl⟩
          obtain ⟨gq, rfl⟩ : ∃ gq, gq = gk := ⟨_, rfl⟩
          go_loopg [41, 10, 14] cs.length (fun g i out _ wx => EiRel H (chunksTo fs k) cs w mb nb g i out wx)
          case atStart => exact ⟨0, S, by omega, rfl, HSET2.out, by simpa using HS.out, by simpa using HOW2.out, hb2⟩
          case round =>
            clear HSET2 HS HOW2
            obtain ⟨j, T, hj, rfl, hset, hT, hown, hb3⟩ := hrel
            by_cases hg1 : gk = 0
            · obtain rfl : j = cs.length := by omega
              rw [List.take_length] at hT hown
              have HSE := Lib.hid (hset.mono (n' := H.length + (k + 1) * 1000000000) HNB1.out)
              have HT2 : Hid (∀ s, hasS T s = hasS (H ++ (newTo H (chunksTo fs (k + 1))).map (·.1)) s) := by rw [HCT2.out]; exact hT
              have HO2 : Hid (wr.ownsRow w.heap.size 49 2 u10 (newTo H (chunksTo fs (k + 1))).length ((newTo H (chunksTo fs (k + 1))).flatMap chC)) := by rw [HCT2.out]; exact hown
              clear hset hT hown hj hg1
              go_wp2_with fail
              go_roundg (gq - 1)
              case measure => omega
              case rel => exact ⟨k + 1, T, by have := HK.out; omega, by go_num, HSE.out, HT2.out, HO2.out, hb3⟩
            · have hjl : j < cs.length := by omega
              have hl8 := newTo_len H (chunksTo fs k ++ cs.take j)
              have hl7 : (newTo H (chunksTo fs k ++ cs.take j)).length ≤ 1000000000000 := by rw [List.length_append, List.length_take] at hl8; omega
              obtain ⟨g2, o2, rfl, hg2, e0, e1⟩ := HL2.out.chunk hjl rfl
              have f0 := (hb3.cell (p := ⟨g2, o2 + j * 2, none⟩) hg2).trans e0
              have f1 := (hb3.cell (p := ⟨g2, o2 + j * 2 + 1, none⟩) hg2).trans e1
              have hcj := (HCO.out _ (List.getElem_mem hjl)).1
              have HST := Lib.hid (show newTo H (chunksTo fs k ++ cs.take (j + 1)) = newStep H (newTo H (chunksTo fs k ++ cs.take j)) cs[j] by rw [List.take_succ_eq_append_getElem hjl, ← List.append_assoc, newTo_snoc])
              have HJ := Lib.hid hj
              have hgk1 : gk ≠ 0 := hg1
              clear hj hg1 e0 e1 hl8
              generalize cs[j] = cj at *
              generalize newTo H (chunksTo fs k ++ cs.take j) = out at *
              obtain ⟨ck, cz⟩ := cj
              have hbz3 := hb3.size
              have hset2 := hset.alloc (.cells #[.string ck, .int .i64 cz] 49)
              have hb4 := bbox hb3 (.cells #[.string ck, .int .i64 cz] 49)
              have hown2 := hown.alloc (.cells #[.string ck, .int .i64 cz] 49)
              have hcs : ck.size ≤ 1000000000000 := hcj
              have hmbl := hset.lt
              clear hset hown hcj
              rcases Bool.eq_false_or_eq_true (hasS T ck) with hq | hq
              · have HQ := Lib.hid (has_old hT (c := (ck, cz)) hq)
                have HT2 := Lib.hid hT
                have HSE := Lib.hid (hset2.mono (n' := nb + (j + 1)) (by omega))
                have HO2 := Lib.hid hown2
                clear hT hown2
                go_wp2_with (at_lookup; refine wpList_lookup_set rfl _ _ rfl mb _ T ck rfl hset2 rfl hcs ?_)
                go_roundg (gk - 1)
                case measure => omega
                case rel => exact ⟨j + 1, T, by have := HJ.out; omega, by go_num, HSE.out, by rw [HST.out, HQ.out]; exact HT2.out, by rw [HST.out, HQ.out]; exact HO2.out, hb4⟩
              · have HQ := Lib.hid (has_new hT (c := (ck, cz)) hq)
                clear hT
                go_wp2_with (first | (at_lookup; refine wpList_lookup_set rfl _ _ rfl mb _ T ck rfl hset2 rfl hcs ?_) | (at_mapUpdate; refine wpList_update_set rfl _ _ _ rfl mb _ T ck rfl hset2 rfl rfl hcs (by omega) ?_))
                intro w4 hset4 hgr4
                clear hq
                have hown4 := hown2.kept hgr4 (.inr fun e => own_map_ne hown2 hset2 e.symm)
                have hb5 := hb4.grown hgr4 (by simp; omega) (fun x hx => by cases hx; exact hmbz)
                have hbz5 := hb5.size
                have q0 : w4.cell? ⟨wr.heap.size, 0, none⟩ = some (.string ck) := (World.cell?_of_block (hgr4.block wr.heap.size (by simp) (fun e => by injection e with e; omega))).trans (cell_new_list wr _ _ 0 _ rfl)
                have q1 : w4.cell? ⟨wr.heap.size, 1, none⟩ = some (.int .i64 cz) := (World.cell?_of_block (hgr4.block wr.heap.size (by simp) (fun e => by injection e with e; omega))).trans (cell_new_list wr _ _ 1 _ rfl)
                have ql : wr.heap.size < w4.heap.size := World.block_lt_of_cell? w4 _ q0
                clear hset2 hown2 hgr4 hb4
                go_wp2_with (at_builtin; refine wpList_push (W := w) (lo := w.heap.size) rfl _ _ 50 rfl 49 i0 _ 2 24 Tryz.underlying50 hi hz0 hz1 hz2 rfl (by decide) (by decide) _ _ _ rfl hb5 hbz5 hown4 [.string ck, .int .i64 cz] rfl rfl rfl rfl hl7 ?_)
                intro v' w5 hown5 hb6 _ hg5
                have hset5 := hset4.kept hg5 (own_map_ne hown4 hset4)
                have HSE := Lib.hid (hset5.mono (n' := nb + (j + 1)) (by omega))
                have HO2 := Lib.hid hown5
                clear hset4 hset5 hown4 hown5 hg5 q0 q1
                go_wp2_with fail
                go_roundg (gk - 1)
                case measure => omega
                case rel => exact ⟨j + 1, ck :: T, by have := HJ.out; omega, by go_num, HSE.out, by rw [HST.out]; exact HQ.out.2, by rw [HST.out, HQ.out.1, List.length_append, List.flatMap_append]; exact HO2.out, hb6⟩
    · have hlt : k < H.length := by omega
      obtain ⟨g, o, rfl, hgl, hc⟩ := str_at (HH.out.below hbw) rfl hlt
      have hs9 := HSZ.out _ (List.getElem_mem hlt)
      have HK := Lib.hid hk
      have HTK := Lib.hid (show H.take (k + 1) = H.take k ++ [H[k]] from List.take_succ_eq_append_getElem hlt)
      have HS := Lib.hid hS
      have hgk : gk ≠ 0 := hg
      clear hk hS hg n0 n1 ln
      generalize H[k] = s at *
      go_wp2_with (at_mapUpdate; refine wpList_update_set rfl _ _ _ rfl mb _ S s rfl hset rfl rfl (by omega) (by omega) ?_)
      intro w4 hset4 hgr4
      have hb4 := hb.grown hgr4 (by have := hset.lt; omega) (fun x hx => by cases hx; exact Nat.le_refl _)
      have hz4 := hgr4.size
      have HSE := Lib.hid hset4
      clear hset hset4
      go_wp2_with fail
      go_roundg (gk - 1)
      case measure => omega
      case rel => exact ⟨k + 1, s :: S, by have := HK.out; omega, by go_num, HSE.out, fun t => by rw [hasS_cons, HTK.out, hasS_append, HS.out]; simp [hasS, Bool.or_comm], hb4, by omega⟩
end Go.Proofs.YtegalkmfoffpfaaGreatDoor
