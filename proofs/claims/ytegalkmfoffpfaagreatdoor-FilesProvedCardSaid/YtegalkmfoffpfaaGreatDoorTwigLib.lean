/- slices.Equal and slices.Clone at twigs. -/
import Derived.Test.YtegalkmfoffpfaaGreatDoorVerify
import Derived.Test.YtegalkmfoffpfaaGreatDoorEqual
import Derived.Test.YtegalkmfoffpfaaGreatDoorProofWalk
namespace Go.Proofs.YtegalkmfoffpfaaGreatDoor
open Go.RowKit

def EqRel (n : Nat) (w : World) (g : Nat) (i : Value) (wr : World) : Prop := ∃ k : Nat, k + g = n ∧ i = .int .i64 k ∧ ∃ q, wr = w.drewN q
set_option maxRecDepth 100000 in
set_option maxHeartbeats 1000000 in
theorem equalTwig_same (A A' : Option Addr) (c c' lo lo' : Nat) (ts : List TwigD) (w : World) (hn : ts.length ≤ 1000000000000)
    (h1 : Lst w lo 2 (.slice A ts.length c) (ts.flatMap twC)) (h2 : Lst w lo' 2 (.slice A' ts.length c') (ts.flatMap twC)) :
    Calls Tryz.prog 17 #[.slice A ts.length c, .slice A' ts.length c'] w fun e w' => e = .returned (.bool true) ∧ ∃ q, w' = w.drewN q := by
  have H1 := Lib.hid h1
  have H2 := Lib.hid h2
  clear h1 h2
  go_enter Tryz.func17, Tryz.ntmps17
  go_wp2_with fail
  go_loopg [13, 5] ts.length (fun g i _ wr => EqRel ts.length w g i wr)
  case atStart => exact ⟨0, by omega, rfl, 0, rfl⟩
  case round =>
    obtain ⟨k, hk, rfl, q, rfl⟩ := hrel
    by_cases hg : gk = 0
    · obtain rfl : k = ts.length := by omega
      clear hk hg
      go_wp2_with fail
      go_ret
      exact ⟨rfl, _, rfl⟩
    · have hlt : k < ts.length := by omega
      obtain ⟨g, o, rfl, _, a0, a1⟩ := H1.out.twig hlt rfl
      obtain ⟨g', o', rfl, _, b0, b1⟩ := H2.out.twig hlt rfl
      have HK := Lib.hid hk
      have hgk : gk ≠ 0 := hg
      clear hk hg
      generalize ts[k].1 = s1 at *
      generalize ts[k].2 = n1 at *
      have hlt' : (k : Int) < (ts.length : Int) := by omega
      go_wp2_with fail
      go_quiet (fail)
      go_wp2_with fail
      go_roundg (gk - 1)
      case measure => omega
      case rel => exact ⟨k + 1, by have := HK.out; omega, by go_num, _, rfl⟩
theorem own_cells {w : World} {base e size n c : Nat} {g : Nat} {xs : List Value} (h : w.ownsRow base e size (.slice (some ⟨g, 0, none⟩) n c) n xs) : ∀ j u, xs[j]? = some u → w.cell? ((⟨g, 0, none⟩ : Addr).add j) = some u := by
  intro j u hu
  rcases h.2 with ⟨h0, _⟩ | ⟨g', cap, cur, hv, _, hh, _, _, _, hx⟩
  · cases h0
  · simp only [Value.slice.injEq, Option.some.injEq, Addr.mk.injEq] at hv
    obtain ⟨⟨rfl, _, _⟩, _, _⟩ := hv
    have e : (⟨g, 0, none⟩ : Addr).add j = ⟨g, j, none⟩ := by unfold Addr.add; split <;> simp_all
    rw [e]
    have hcur : cur[j]? = some u := by
      rw [← hx, List.getElem?_take] at hu
      split at hu
      · simpa using hu
      · cases hu
    simp [World.cell?, hh, hcur]
theorem own_nil_or {w : World} {base e size n : Nat} {v : Value} {xs : List Value} (h : w.ownsRow base e size v n xs) : (v = .slice none 0 0 ∧ n = 0 ∧ xs = []) ∨ ∃ g c, v = .slice (some ⟨g, 0, none⟩) n c := by
  rcases h.2 with ⟨rfl, rfl⟩ | ⟨g, cap, cur, rfl, _⟩
  · exact .inl ⟨rfl, rfl, List.eq_nil_of_length_eq_zero (by simpa using h.1)⟩
  · exact .inr ⟨g, cap, rfl⟩
theorem ownsRow_empty {w : World} {t : TypeId} {base size : Nat} (hb : base ≤ w.heap.size) : (w.alloc (.cells #[] t)).ownsRow base t size (.slice (some ⟨w.heap.size, 0, none⟩) 0 0) 0 [] :=
  ⟨by simp, .inr ⟨w.heap.size, 0, #[], rfl, hb, heap_alloc_new w _, Nat.le_refl _, by unfold maxLen; omega, by simp, by simp⟩⟩
set_option maxRecDepth 100000 in
set_option maxHeartbeats 1000000 in
theorem cloneTwig_any (v : Value) (lo : Nat) (ts : List TwigD) (w : World) (hn : ts.length ≤ 1000000) (h : w.ownsRow lo 46 2 v ts.length (ts.flatMap twC)) :
    Calls Tryz.prog 19 #[v] w fun e w' => ∃ v', e = .returned v' ∧ w'.ownsRow w.heap.size 46 2 v' ts.length (ts.flatMap twC) ∧ Below w.heap.size w w' := by
  obtain ⟨i0, hi, hz0, hz1, hz2⟩ := info_parts infoTwig
  have hnil := fun (w : World) (a : Option Addr) (n c : Nat) => Lib.run_eql_slice_nil (P := Tryz.prog) w 36 46 a n c 0 0 Tryz.underlying36
  rcases own_nil_or h with ⟨rfl, hn0, hxs⟩ | ⟨g, c, rfl⟩
  · have HX := Lib.hid hxs
    have HN := Lib.hid hn0
    clear h hxs hn0
    go_enter Tryz.func19, Tryz.ntmps19
    go_wp2_with fail
    go_ret
    exact ⟨_, rfl, by rw [HX.out, HN.out]; exact World.ownsRow_nil _ _ _ _, Below.refl _ _⟩
  · have hc1 := own_cells (h.alloc (.cells #[] 46))
    have h1 : ∀ u ∈ ts.flatMap twC, u.oneCell' = true := by
      intro u hu
      obtain ⟨t, _, ht⟩ := List.mem_flatMap.1 hu
      simp only [twC, List.mem_cons, List.mem_nil_iff, or_false] at ht
      rcases ht with rfl | rfl <;> rfl
    have hl : (ts.flatMap twC).length = ts.length * 2 := flat2_len ts twC (fun _ => rfl)
    have HH := Lib.hid (show (w.alloc (.cells #[] 46)).ownsRow w.heap.size 46 2 (.slice (some ⟨w.heap.size, 0, none⟩) 0 0) 0 [] from ownsRow_empty (Nat.le_refl _))
    have HC := Lib.hid hc1
    have H1 := Lib.hid h1
    have HL := Lib.hid hl
    clear h hc1 h1 hl
    go_enter Tryz.func19, Tryz.ntmps19
    go_wp2_with (at_builtin; refine wpList_append_own _ rfl _ _ 36 rfl w.heap.size 46 i0 _ 2 24 Tryz.underlying36 hi hz0 hz1 hz2 rfl (by decide) _ _ _ rfl HH.out ⟨g, 0, none⟩ ts.length c (ts.flatMap twC) rfl HL.out HC.out H1.out (by unfold maxLen; omega) (by omega) (by simp) ?_)
    intro v' w1 hown hgrow _
    have hb1 : Below w.heap.size w w1 := (bfirst w _).grown hgrow (by simp) (fun x hx => by cases hx; exact Nat.le_refl _)
    have HO := Lib.hid hown
    clear hown hgrow
    go_wp2_with fail
    go_ret
    exact ⟨_, rfl, HO.out, hb1⟩
end Go.Proofs.YtegalkmfoffpfaaGreatDoor
