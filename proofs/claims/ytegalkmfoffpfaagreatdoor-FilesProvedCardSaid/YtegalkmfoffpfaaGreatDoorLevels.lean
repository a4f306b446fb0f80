/- leaves, Root; levels, RootOf. -/
import Derived.Test.YtegalkmfoffpfaaGreatDoorPairs
import Derived.Test.YtegalkmfoffpfaaGreatDoorGenMan2
namespace Go.Proofs.YtegalkmfoffpfaaGreatDoor
open Go.RowKit
attribute [local go_sem ↓] Go.wp_at_zero Go.wp_at_succ

def leavesS (fs : List FileD) : List ByteArray := fs.map leafS
theorem leaves_16 (fs : List FileD) : ∀ s ∈ leavesS fs, s.size ≤ 16 := by
  intro s hs
  obtain ⟨f, _, rfl⟩ := List.mem_map.1 hs
  exact Nat.le_of_eq (sumS_size _)
def lvC (fs : List FileD) (k : Nat) : List Value := ((fs.take k).map leafS).map Value.string
theorem leaves_snoc (fs : List FileD) {k : Nat} (h : k < fs.length) : lvC fs (k + 1) = lvC fs k ++ [.string (leafS fs[k])] := by
  unfold lvC
  rw [List.take_succ_eq_append_getElem h]; simp only [List.map_append, List.map_cons, List.map_nil]
def LvRel (fs : List FileD) (w : World) (g : Nat) (out i : Value) (wr : World) : Prop :=
  ∃ k : Nat, k + g = fs.length ∧ i = .int .i64 k ∧ wr.ownsRow w.heap.size 9 1 out k (lvC fs k) ∧ Below w.heap.size w wr

set_option maxRecDepth 100000 in
set_option maxHeartbeats 2000000 in
theorem leaves_any (no : Int) (A : Option Addr) (lo c : Nat) (fs : List FileD) (w : World) (ht : Tab w) (hf : FilesAt w lo (.slice A fs.length c) fs) (hsh : ∀ f ∈ fs, Short f) (hn : fs.length ≤ 300) :
    Calls Tryz.prog 74 #[.agg #[.int .i64 no, .slice A fs.length c]] w fun e w' => ∃ v, e = .returned v ∧ w'.ownsRow w.heap.size 9 1 v fs.length ((leavesS fs).map Value.string) ∧ Below w.heap.size w w' := by
  have HT := Lib.hid ht
  have HF := Lib.hid hf
  have HS := Lib.hid hsh
  clear ht hf hsh
  obtain ⟨i0, hi, hz0, hz1, hz2⟩ := info_parts infoStr
  go_enter Tryz.func74, Tryz.ntmps74
  go_wp2_with fail
  go_loopg [3, 9, 5] fs.length (fun g out i _ wr => LvRel fs w g out i wr)
  case atStart => exact ⟨0, by omega, rfl, World.ownsRow_nil _ _ _ _, (Below.refl _ _).alloc (Nat.le_refl _) _⟩
  case round =>
    obtain ⟨k, hk, rfl, hown, hb⟩ := hrel
    have hbz := hb.size
    by_cases hg : gk = 0
    · obtain rfl : k = fs.length := by omega
      clear hk
      go_wp2_with fail
      go_ret
      refine ⟨_, rfl, ?_, hb⟩
      rw [lvC, List.take_length] at hown
      exact hown
    · have hlt : k < fs.length := by omega
      obtain ⟨g, o, B, m, d, rfl, hgl, cK0, cC0, hm, hL⟩ := HF.out.at_ hlt
      have cK := (hb.cell (p := ⟨g, o + k * 2, none⟩) hgl).trans cK0
      have cC := (hb.cell (p := ⟨g, o + k * 2 + 1, none⟩) hgl).trans cC0
      have HSH := Lib.hid (HS.out _ (List.getElem_mem hlt))
      have HSN := Lib.hid (leaves_snoc fs hlt)
      have HK := Lib.hid hk
      have HM := Lib.hid hm
      have HL := Lib.hid hL
      have hgk : gk ≠ 0 := hg
      clear hk hm hL hg cK0 cC0
      generalize fs[k] = f at *
      go_wp2_with fail
      have hb2 := hb.alloc hbz (.cells #[.string f.1, .slice B m d] 52)
      refine (leaf_any f B lo m d _ (HT.out.below hb2) (HL.out.below hb2) HM.out HSH.out).mono ?_
      rintro e w1 ⟨rfl, hb1⟩
      have hb3 : Below w.heap.size w w1 := hb2.trans (hb1.mono (by simp; omega))
      have hown2 := ownsRow_below (hown.alloc (.cells #[.string f.1, .slice B m d] 52)) hb1
      have hz3 := hb3.size
      generalize leafS f = t at *
      clear hb1 hb2 cK cC hown
      go_wp2_with (at_builtin; refine wpList_append_own _ rfl _ _ 88 rfl w.heap.size 9 i0 (.string ⟨#[]⟩) 1 16 Tryz.underlying88 hi hz0 hz1 hz2 rfl (by decide) _ _ _ rfl (hown2.alloc _) ⟨w1.heap.size, 0, none⟩ 1 1 [.string t] rfl rfl ?c1 ?c2 ?c3 ?c4 ?c5 ?_)
      case c1 => exact cells_new w1 [.string t] _
      case c2 => intro u hu; simp at hu; subst hu; rfl
      case c3 => unfold maxLen; omega
      case c4 => omega
      case c5 => simp; omega
      intro v' w2 hown3 hgrow _
      have hb4 : Below w.heap.size w w2 := (hb3.alloc hz3 _).grown hgrow (by simp; omega) (fun x hx => (hown2.lt x hx).1)
      have HO := Lib.hid hown3
      clear hown3 hown2 hgrow
      go_wp2_with fail
      go_roundg (gk - 1)
      case measure => omega
      case rel => exact ⟨k + 1, by have := HK.out; omega, by go_num, by rw [HSN.out]; exact HO.out, hb4⟩

/-! ### Rows over rows -/
def climb : Nat → List ByteArray → List ByteArray
  | 0, l => l
  | j + 1, l => pairS (climb j l)
theorem pairS_small (l : List ByteArray) (h : l.length ≤ 1) : pairS l = l := by
  match l, h with
  | [], _ => rfl
  | [a], _ => simp [pairS, pairTo, pairAt]
theorem climb_stop {l : List ByteArray} {j : Nat} (h : (climb j l).length ≤ 1) : ∀ d, climb (j + d) l = climb j l
  | 0 => rfl
  | d + 1 => by
    show pairS (climb (j + d) l) = _
    rw [climb_stop h d, pairS_small _ h]
theorem climb_16 {l : List ByteArray} (h : ∀ s ∈ l, s.size ≤ 16) : ∀ j, ∀ s ∈ climb j l, s.size ≤ 16
  | 0 => h
  | j + 1 => pairS_16 _ (climb_16 h j)
def rootS (l : List ByteArray) : ByteArray := match climb l.length l with
  | [] => sumS ⟨#[]⟩
  | a :: _ => a
theorem rootS_nil : rootS [] = sumS ⟨#[]⟩ := rfl
theorem rootS_top {l : List ByteArray} {j : Nat} (hj : j ≤ l.length) {a : ByteArray} (h : climb j l = [a]) : rootS l = a := by
  have := climb_stop (l := l) (j := j) (by rw [h]; simp) (l.length - j)
  rw [show j + (l.length - j) = l.length by omega, h] at this
  rw [rootS, this]
/-- At the top after j rounds. -/
structure Climbs (l : List ByteArray) (j : Nat) : Prop where
  before : ∀ i, i < j → 1 < (climb i l).length
  len : (climb j l).length + j ≤ l.length
  pos : l ≠ [] → 1 ≤ (climb j l).length
theorem Climbs.zero (l : List ByteArray) : Climbs l 0 := ⟨fun i h => by omega, by simp [climb], fun h => by cases l <;> simp_all [climb]⟩
theorem Climbs.succ {l : List ByteArray} {j : Nat} (h : Climbs l j) (h1 : 1 < (climb j l).length) : Climbs l (j + 1) := by
  have e : (climb (j + 1) l).length = ((climb j l).length + 1) / 2 := pairS_len _
  refine ⟨fun i hi => ?_, ?_, fun _ => by omega⟩
  · rcases Nat.lt_or_ge i j with h2 | h2
    · exact h.before i h2
    · rw [show i = j by omega]; exact h1
  · have := h.len; omega
def stC (ss : List ByteArray) : List Value := ss.map Value.string

def RootRel (l : List ByteArray) (w : World) (g : Nat) (s : Value) (wr : World) : Prop :=
  ∃ (j : Nat) (cur : List ByteArray), cur = climb j l ∧ Climbs l j ∧ cur.length ≤ g + 1 ∧ wr.ownsRow w.heap.size 9 1 s cur.length (stC cur) ∧ Below w.heap.size w wr

set_option maxRecDepth 100000 in
set_option maxHeartbeats 2000000 in
theorem root_no (no : Int) (A : Option Addr) (lo c : Nat) (fs : List FileD) (w : World) (hf : FilesAt w lo (.slice A fs.length c) fs) (hok : FilesOk fs) (hn : fs.length ≤ 300) (hz : (manF no fs != 0) = true) :
    Calls Tryz.prog 9 #[.agg #[.int .i64 no, .slice A fs.length c]] w fun e w' => e = .returned (.tuple #[.string ⟨#[]⟩, .int .i64 (manF no fs)]) ∧ Below w.heap.size w w' := by
  have HF := Lib.hid hf
  have HOK := Lib.hid hok
  clear hf hok
  go_enter Tryz.func9, Tryz.ntmps9
  go_wp2_with fail
  have hb0 : Below w.heap.size w (w.alloc (.cells #[.int .i64 no, .slice A fs.length c] 28)) := (Below.refl _ _).alloc (Nat.le_refl _) _
  refine (checkManifest_any no A lo c fs _ (HF.out.below hb0) HOK.out hn).mono ?_
  rintro e w1 ⟨rfl, hb1⟩
  go_wp2_with fail
  go_ret2
  exact ⟨rfl, hb0.trans (hb1.mono (by simp))⟩

set_option maxRecDepth 100000 in
set_option maxHeartbeats 2000000 in
theorem root_any (no : Int) (A : Option Addr) (lo c : Nat) (fs : List FileD) (w : World) (ht : Tab w) (hf : FilesAt w lo (.slice A fs.length c) fs) (hok : FilesOk fs) (hsh : ∀ f ∈ fs, Short f) (hn : fs.length ≤ 300) (hz : manF no fs = 0) :
    Calls Tryz.prog 9 #[.agg #[.int .i64 no, .slice A fs.length c]] w fun e w' => e = .returned (.tuple #[.string (rootS (leavesS fs)), .int .i64 0]) ∧ Below w.heap.size w w' := by
  have HT := Lib.hid ht
  have HF := Lib.hid hf
  have HS := Lib.hid hsh
  have HOK := Lib.hid hok
  clear hf hok ht hsh
  go_enter Tryz.func9, Tryz.ntmps9
  go_wp2_with fail
  have hb0 : Below w.heap.size w (w.alloc (.cells #[.int .i64 no, .slice A fs.length c] 28)) := (Below.refl _ _).alloc (Nat.le_refl _) _
  refine (checkManifest_any no A lo c fs _ (HF.out.below hb0) HOK.out hn).mono ?_
  rintro e w1 ⟨rfl, hb1⟩
  have hb2 : Below w.heap.size w w1 := hb0.trans (hb1.mono (by simp))
  have hz1 := hb1.size
  have hl1 : w.heap.size < w1.heap.size := by simp at hz1; omega
  have c0 : w1.cell? ⟨w.heap.size, 0, none⟩ = some (.int .i64 no) := (hb1.cell (p := ⟨w.heap.size, 0, none⟩) (by simp)).trans (cell_new_list w _ _ 0 _ rfl)
  have c1 : w1.cell? ⟨w.heap.size, 1, none⟩ = some (.slice A fs.length c) := (hb1.cell (p := ⟨w.heap.size, 1, none⟩) (by simp)).trans (cell_new_list w _ _ 1 _ rfl)
  rw [hz]
  clear hz1 hb1 hb0
  go_wp2_with fail
  refine (leaves_any no A lo c fs _ (HT.out.below hb2) (HF.out.below hb2) HS.out hn).mono ?_
  rintro e w2 ⟨v, rfl, hown, hb3⟩
  have hb4 : Below w.heap.size w w2 := hb2.trans (hb3.mono hb2.size)
  have hbz2 := hb2.size
  have hlen : (leavesS fs).length = fs.length := by simp [leavesS]
  have h16 := leaves_16 fs
  have hownB := ownsRow_base hown hbz2
  obtain ⟨B, m, d, rfl⟩ := own_form hownB
  obtain rfl : m = fs.length := own_len hownB
  have HO : Hid (w2.ownsRow w.heap.size 9 1 (.slice B fs.length d) (leavesS fs).length (stC (leavesS fs))) := by rw [hlen]; exact hownB
  clear hown hownB c0 c1 hb3 hl1 hb2
  rcases Nat.eq_zero_or_pos fs.length with h0 | h0
  · have h0' : ((fs.length : Int) == 0) = true := beq_iff_eq.2 (by omega)
    have HE := Lib.hid (show rootS (leavesS fs) = sumS ⟨#[]⟩ by rw [List.eq_nil_of_length_eq_zero (l := leavesS fs) (by omega), rootS_nil])
    go_wp2_with fail
    refine (sumOf_any ⟨#[]⟩ (by decide) _ (HT.out.below hb4)).mono ?_
    rintro e w3 ⟨rfl, hb5⟩
    go_wp2_with fail
    go_ret2
    exact ⟨by rw [HE.out]; rfl, hb4.trans (hb5.mono hb4.size)⟩
  · have h0' : ((fs.length : Int) == 0) = false := beq_eq_false_iff_ne.2 (by omega)
    have hne : leavesS fs ≠ [] := by intro e; rw [e] at hlen; simp at hlen; omega
    have hln : (leavesS fs).length ≤ 300 := by omega
    clear hbz2
    go_wp2_with fail
    generalize hll : leavesS fs = l at *
    have HLE := Lib.hid hll
    clear hll
    go_loopg [5] l.length (fun g s wr => RootRel l w g s wr)
    case atStart => exact ⟨0, l, rfl, .zero l, by omega, HO.out, hb4⟩
    case round =>
      obtain ⟨j, cur, hcur, hcl, hlg, hown, hb⟩ := hrel
      have hpos := hcl.pos hne
      have hlen2 := hcl.len
      rw [← hcur] at hpos hlen2
      have hj : j ≤ l.length := by omega
      obtain ⟨B, m, d, rfl⟩ := own_form hown
      obtain rfl : m = cur.length := own_len hown
      have hL : Lst wr w.heap.size 1 (.slice B cur.length d) (stC cur) := .of_own hown
      by_cases h1 : cur.length = 1
      · obtain ⟨a, ha⟩ : ∃ a, cur = [a] := List.length_eq_one_iff.1 h1
        have HE := Lib.hid (rootS_top hj (hcur.symm.trans ha))
        obtain ⟨g, o, u, rfl, _, _, hu, hc⟩ := hL.at_ (k := 0) (by omega)
        obtain rfl : u = .string a := by rw [ha] at hu; simpa [stC] using hu.symm
        have h2' : ¬ ((1 : Int) < (cur.length : Int)) := by omega
        have h3' : 0 < cur.length := by omega
        rw [Nat.add_zero] at hc
        clear hL hown hcur hlen2 hlg hu hpos h1 ha
        go_wp2_with fail
        go_ret2
        exact ⟨by rw [HLE.out, HE.out]; rfl, hb⟩
      · have h2 : 1 < cur.length := by omega
        have h2' : (1 : Int) < (cur.length : Int) := by omega
        have h16c : ∀ s ∈ cur, s.size ≤ 16 := by rw [hcur]; exact climb_16 h16 j
        have HC := Lib.hid (show Climbs l (j + 1) from hcl.succ (by rw [← hcur]; exact h2))
        have HCUR := Lib.hid (show pairS cur = climb (j + 1) l by rw [hcur]; rfl)
        have hbz := hb.size
        have hpl := pairS_len cur
        clear hown hcur
        go_wp2_with fail
        refine (paired_any B w.heap.size d cur _ (HT.out.below hb) hL h16c (by omega)).mono ?_
        rintro e w3 ⟨v, rfl, hown3, hb5⟩
        have hown4 := Lib.hid (ownsRow_base hown3 hbz)
        clear hown3 hL
        go_wp2_with fail
        go_roundg (gk - 1)
        case measure => omega
        case rel => exact ⟨j + 1, pairS cur, HCUR.out, HC.out, by omega, hown4.out, hb.trans (hb5.mono hbz)⟩
end Go.Proofs.YtegalkmfoffpfaaGreatDoor
