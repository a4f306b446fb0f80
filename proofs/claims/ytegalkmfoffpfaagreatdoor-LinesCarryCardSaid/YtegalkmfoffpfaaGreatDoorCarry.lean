/- Carried, CarriedOf; done, Done, DoneAt; the faults of windows and moments. -/
import Derived.Test.YtegalkmfoffpfaaGreatDoorLinks
namespace Go.Proofs.YtegalkmfoffpfaaGreatDoor
open Go.RowKit

theorem links_ok {ls : List LinkD} (h : linksF ls = 0) : LinksOk ls := by
  have hlen : firstTo (liF ls) ls.length = 0 := by
    unfold linksF at h
    split at h
    · omega
    · exact h
  have hall : ∀ k, k < ls.length → liF ls k = 0 := by
    intro k hk
    by_cases e : liF ls k = 0
    · exact e
    · have hz : firstTo (liF ls) k = 0 := by
        by_cases z : firstTo (liF ls) k = 0
        · exact z
        · have := firstTo_le (f := liF ls) (n := ls.length) (by omega) z; omega
      have := firstTo_at (f := liF ls) hk hz e; omega
  have hbad : ∀ k, k < ls.length → lkBad (lAt ls k) = false := by
    intro k hk
    have := hall k hk
    unfold liF at this
    split at this
    · omega
    · rename_i h1; simpa using h1
  have hord : ∀ k, k + 1 < ls.length → (lAt ls k).2.1 ≤ (lAt ls (k + 1)).1 := by
    intro k hk
    have := hall (k + 1) hk
    unfold liF at this
    rw [hbad (k + 1) hk] at this
    simp at this
    exact this
  have hok : ∀ k, k < ls.length → okLink (lAt ls k) := by
    intro k hk
    have := hbad k hk
    simp [lkBad, outsideB] at this
    obtain ⟨⟨⟨h1, h2⟩, h3⟩, h4⟩ := this
    exact ⟨by omega, by omega, by omega, by omega, by omega⟩
  refine ⟨fun x hx => ?_, ?_⟩
  · obtain ⟨k, hk, rfl⟩ := List.getElem_of_mem hx
    rw [← lAt_eq ls hk]; exact hok k hk
  · rw [List.pairwise_iff_getElem]
    intro i j hi hj hij
    rw [← lAt_eq ls hi, ← lAt_eq ls hj]
    induction j with
    | zero => omega
    | succ j ih =>
      have h1 := hord j (by omega)
      rcases Nat.lt_or_ge i j with h2 | h2
      · have h3 := ih (by omega) h2
        have h4 := (hok j (by omega)).2.1
        omega
      · rw [show i = j by omega]; exact h1
theorem linC_bd {x : LinkD} (h : okLink x) (a t : Int) (ha : 0 ≤ a) : linC x a t ≤ 345686400000000000 := by
  obtain ⟨h0, h1, h2, h3, h4⟩ := h
  have : max 0 (min x.2.1 t - max x.1 a) * x.2.2 ≤ 345686400000 * 1000000 := Int.mul_le_mul (by omega) h4 (by omega) (by omega)
  unfold linC
  rw [Int.mul_comm]; omega
theorem car_snoc (ls : List LinkD) (a t : Int) {k : Nat} (h : k < ls.length) : car (ls.take (k + 1)) a t = car (ls.take k) a t + linC ls[k] a t := by
  unfold car
  rw [List.take_succ_eq_append_getElem h, List.map_append, List.sum_append]; simp
theorem car_bd {ls : List LinkD} (h : LinksOk ls) (a t : Int) (ha : 0 ≤ a) : ∀ k, k ≤ ls.length → 0 ≤ car (ls.take k) a t ∧ car (ls.take k) a t ≤ k * 345686400000000000 := by
  intro k
  induction k with
  | zero => intro _; simp [car]
  | succ k ih =>
    intro hk
    have h1 := ih (by omega)
    have h2 := linC_nonneg (h.each _ (List.getElem_mem (show k < ls.length by omega))) a t
    have h3 := linC_bd (h.each _ (List.getElem_mem (show k < ls.length by omega))) a t ha
    rw [car_snoc ls a t (by omega)]
    omega
def CaRel (ls : List LinkD) (a t : Int) (w : World) (g : Nat) (i s : Value) (wr : World) : Prop :=
  ∃ k : Nat, k + g = ls.length ∧ i = .int .i64 k ∧ s = .int .i64 (car (ls.take k) a t) ∧ Below w.heap.size w wr
set_option maxRecDepth 100000 in
set_option maxHeartbeats 2000000 in
theorem carriedOf_any (A : Option Addr) (lo c : Nat) (ls : List LinkD) (a t : Int) (w : World) (hf : Lst w lo 3 (.slice A ls.length c) (ls.flatMap lkC)) (hn : ls.length ≤ 20) (hok : LinksOk ls) (ha : 0 ≤ a) (ha1 : a ≤ 345686400000) (ht : 0 ≤ t) (ht1 : t ≤ 345686400000) :
    Calls Tryz.prog 33 #[.slice A ls.length c, .agg #[.int .i64 a, .int .i64 t]] w fun e w' => e = .returned (.int .i64 (car ls a t)) ∧ Below w.heap.size w w' := by
  have HF := Lib.hid hf
  have HOK := Lib.hid hok
  clear hf hok
  go_enter Tryz.func33, Tryz.ntmps33
  go_wp2_with fail
  have hb0 := bfirst w (.cells #[.int .i64 a, .int .i64 t] 68)
  have X0 := Lib.hid (heap_alloc_new w (.cells #[.int .i64 a, .int .i64 t] 68))
  obtain ⟨w0, hw0⟩ : ∃ w0, w0 = w.alloc (.cells #[.int .i64 a, .int .i64 t] 68) := ⟨_, rfl⟩
  rw [← hw0] at X0 hb0 ⊢
  clear hw0
  go_loopg [10, 5, 7] ls.length (fun g i s _ wr => CaRel ls a t w0 g i s wr)
  case atStart => exact ⟨0, by omega, rfl, rfl, Below.refl _ _⟩
  case round =>
    obtain ⟨k, hk, rfl, rfl, hb⟩ := hrel
    have hbw := bon hb0 hb
    by_cases hg : gk = 0
    · obtain rfl : k = ls.length := by omega
      rw [List.take_length]
      clear hk hg
      go_wp2_with fail
      go_ret
      exact ⟨rfl, hbw⟩
    · have hlt : k < ls.length := by omega
      obtain ⟨g, o, rfl, hgl, c0, c1, c2⟩ := (HF.out.below hbw).link hlt rfl
      have hM := (hb.block w.heap.size (block_lt X0.out)).trans X0.out
      have m0 := (stream_cells hM).1
      have m1 := (stream_cells hM).2.1
      have ml := block_lt hM
      have hbd := car_bd HOK.out a t ha k (by omega)
      have hx := HOK.out.each _ (List.getElem_mem hlt)
      have hln := linC_nonneg hx a t
      have hlb := linC_bd hx a t ha
      have HS := Lib.hid (car_snoc ls a t hlt)
      have HK := Lib.hid hk
      have hgk : gk ≠ 0 := hg
      clear hk hg hM
      generalize ls[k] = x at *
      obtain ⟨xf, xt, xs⟩ := x
      obtain ⟨x0, x1, x2, x3, x4⟩ : 0 ≤ xf ∧ xf < xt ∧ xt ≤ 345686400000 ∧ 1 ≤ xs ∧ xs ≤ 1000000 := hx
      have HLC : Hid (linC (xf, xt, xs) a t = xs * max 0 (min xt t - max xf a)) := rfl
      have hw1 : IntKind.i64.wrap (xs * max 0 (min xt t - max xf a)) = xs * max 0 (min xt t - max xf a) := by
        rw [IntKind.wrap_i64]; have := HLC.out; omega
      have hp0 : 0 ≤ xs * max 0 (min xt t - max xf a) := hln
      have hp1 : xs * max 0 (min xt t - max xf a) ≤ 345686400000000000 := hlb
      clear hln hlb
      obtain ⟨p0, p1⟩ := hbd
      have hb3 := bbox hb (.cells #[.int .i64 xf, .int .i64 xt, .int .i64 xs] 152)
      generalize car (ls.take k) a t = s0 at *
      have hk20 : s0 ≤ 20 * 345686400000000000 := by omega
      clear p1
      go_wp2_with fail
      go_roundg (gk - 1)
      case measure => omega
      case rel => exact ⟨k + 1, by have := HK.out; omega, by go_num, by rw [HS.out, HLC.out], hb3⟩
end Go.Proofs.YtegalkmfoffpfaaGreatDoor
