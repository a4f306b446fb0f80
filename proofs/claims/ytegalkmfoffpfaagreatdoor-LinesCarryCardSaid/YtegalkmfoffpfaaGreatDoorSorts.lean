/- slices.SortFunc and slices.SortStableFunc at needs and at what came: at most twelve elements of a row of the call's own. -/
import Derived.Test.YtegalkmfoffpfaaGreatDoorCmps2
import Derived.Test.YtegalkmfoffpfaaGreatDoorSortMem
import Derived.Test.YtegalkmfoffpfaaGreatDoorGenMan2
import Derived.Test.YtegalkmfoffpfaaGreatDoorSortLays
import Derived.Shelf.SlSortCmp.SmallK
namespace Go.Proofs.YtegalkmfoffpfaaGreatDoor
open Go.RowKit Go.Sort Go.Lib Go.Proofs
/-- What a comparing function of two structs tells, in whatever world; it boxes its parameters. -/
def CmpTells {α : Type} (P : Program) (f : Nat) (enc : α → List Value) (cf : α → α → Int) : Prop :=
  ∀ x y W, Calls P f #[.agg (enc x).toArray, .agg (enc y).toArray] W fun e w' => e = .returned (.int .i64 (cf x y)) ∧ ∃ q os', w' = grow (W.drewN q) os'
set_option maxRecDepth 100000 in
set_option maxHeartbeats 1000000 in
theorem insNeed_none (A : Option Addr) (c : Nat) (f : Value) (w : World) : Calls Tryz.prog 205 #[.slice A 0 c, .int .i64 0, .int .i64 0, f] w fun e w' => e = .returned (.tuple #[]) ∧ w = w' := by
  go_enter Tryz.func205, Tryz.ntmps205
  go_wp2_with fail
  refine wp_loop_rounds 1 ?_
  rw [rounds_succ]
  go_wp2_with fail
  go_end0
  exact ⟨rfl, rfl⟩
set_option maxRecDepth 100000 in
set_option maxHeartbeats 1000000 in
theorem pdqNeed_none (A : Option Addr) (c : Nat) (l : Int) (f : Value) (w : World) : Calls Tryz.prog 204 #[.slice A 0 c, .int .i64 0, .int .i64 0, .int .i64 l, f] w fun e w' => e = .returned (.tuple #[]) ∧ w = w' := by
  go_enter Tryz.func204, Tryz.ntmps204
  go_wp2_with fail
  refine wp_loop_rounds 1 ?_
  rw [rounds_succ]
  go_wp2_with fail
  refine (insNeed_none A c f _).mono ?_
  rintro e w1 ⟨rfl, rfl⟩
  go_wp2_with fail
  (try simp only [Exit.inBlock, Exit.then]); refine bodyPost_ret (results_none rfl _ _ _) rfl ?_
  exact ⟨rfl, rfl⟩
set_option maxRecDepth 100000 in
set_option maxHeartbeats 1000000 in
theorem sortNeed_none (A : Option Addr) (c : Nat) (f : Value) (w : World) : Calls Tryz.prog 169 #[.slice A 0 c, f] w fun e w' => e = .returned (.tuple #[]) ∧ w = w' := by
  go_enter Tryz.func169, Tryz.ntmps169
  go_wp2_with fail
  refine (Tryz.bits_Len 0 _ (by omega) (by omega)).mono ?_
  rintro e w1 ⟨rfl, rfl⟩
  go_wp2_with fail
  refine (pdqNeed_none A c _ f _).mono ?_
  rintro e w1 ⟨rfl, rfl⟩
  go_wp2_with fail
  go_end0
  exact ⟨rfl, rfl⟩
theorem sortNeed_own (f : Nat) (cf : NeedD → NeedD → Int) (eg : ∀ args w, (callFunc f args).run Tryz.prog w = .ok (.enter f args) w) (hc : CmpTells Tryz.prog f ndC cf) (v : Value) (base : Nat) (ns : List NeedD) (w : World) (h12 : ns.length ≤ 12)
    (h : w.ownsRow base 155 3 v ns.length (ns.flatMap ndC)) :
    Calls Tryz.prog 169 #[v, .func (.func f) #[] #[]] w fun e w' => e = .returned (.tuple #[]) ∧ w'.ownsRow base 155 3 v ns.length ((srt (ltOf cf) ns).flatMap ndC) ∧ w.grownBy w' v.ownBlock := by
  rcases own_nil_or h with ⟨rfl, hn0, hxs⟩ | ⟨g, c, rfl⟩
  · have e0 : ns = [] := List.eq_nil_of_length_eq_zero hn0
    subst e0
    refine (sortNeed_none none 0 _ w).mono ?_
    rintro e w1 ⟨rfl, rfl⟩
    exact ⟨rfl, by rw [show srt (ltOf cf) ([] : List NeedD) = [] from List.eq_nil_of_length_eq_zero (srt_len _ _)]; exact h, gb_refl _ _⟩
  · have hk : ∀ x : NeedD, (ndC x).length = 3 := fun _ => rfl
    have hblk : g < w.heap.size := (h.lt g rfl).2
    have hcl : CmpLays Tryz.prog f #[] ndC 3 cf g 0 ns.toArray.size w := fun m os dk _ x y => by
      simpa using hc x y (sortWorldK ndC 3 w g 0 m dk os)
    have := AnyQ.slices_SortFunc_small Tryz.sortNeed 3 Tryz.isAgg155 Tryz.sizeOf155 ndC hk (fun x u hu => by simp [ndC] at hu; rcases hu with rfl | rfl | rfl <;> rfl) cf f #[] g 0 c ns.toArray w eg hcl (own_holds hk (by simpa using h) (by simp)) hblk (by simpa using h12)
      (fun n W hn => (Tryz.bits_Len n W (by omega) (by omega)).mono fun _ _ ⟨he, hw⟩ => ⟨⟨_, he⟩, hw⟩)
    simp only [List.size_toArray] at this
    change Calls Tryz.prog 169 _ _ _ at this
    refine this.mono ?_
    rintro e w1 ⟨rfl, m, os, rfl⟩
    have hs := sort_size (ltOf cf) ns.toArray
    simp only [List.size_toArray] at hs
    have := sortK_own (m := m) (os := os) (d' := insertionSort (ltOf cf) ns.toArray 0 ns.length) (d := ns.toArray) hk (by simpa using h) hs
    exact ⟨rfl, this.1, this.2⟩
set_option maxRecDepth 100000 in
set_option maxHeartbeats 1000000 in
theorem insCame_none (A : Option Addr) (c : Nat) (f : Value) (w : World) : Calls Tryz.prog 207 #[.slice A 0 c, .int .i64 0, .int .i64 0, f] w fun e w' => e = .returned (.tuple #[]) ∧ w = w' := by
  go_enter Tryz.func207, Tryz.ntmps207
  go_wp2_with fail
  refine wp_loop_rounds 1 ?_
  rw [rounds_succ]
  go_wp2_with fail
  go_end0
  exact ⟨rfl, rfl⟩
set_option maxRecDepth 100000 in
set_option maxHeartbeats 1000000 in
theorem pdqCame_none (A : Option Addr) (c : Nat) (l : Int) (f : Value) (w : World) : Calls Tryz.prog 178 #[.slice A 0 c, .int .i64 0, .int .i64 0, .int .i64 l, f] w fun e w' => e = .returned (.tuple #[]) ∧ w = w' := by
  go_enter Tryz.func178, Tryz.ntmps178
  go_wp2_with fail
  refine wp_loop_rounds 1 ?_
  rw [rounds_succ]
  go_wp2_with fail
  refine (insCame_none A c f _).mono ?_
  rintro e w1 ⟨rfl, rfl⟩
  go_wp2_with fail
  (try simp only [Exit.inBlock, Exit.then]); refine bodyPost_ret (results_none rfl _ _ _) rfl ?_
  exact ⟨rfl, rfl⟩
set_option maxRecDepth 100000 in
set_option maxHeartbeats 1000000 in
theorem sortCame_none (A : Option Addr) (c : Nat) (f : Value) (w : World) : Calls Tryz.prog 114 #[.slice A 0 c, f] w fun e w' => e = .returned (.tuple #[]) ∧ w = w' := by
  go_enter Tryz.func114, Tryz.ntmps114
  go_wp2_with fail
  refine (Tryz.bits_Len 0 _ (by omega) (by omega)).mono ?_
  rintro e w1 ⟨rfl, rfl⟩
  go_wp2_with fail
  refine (pdqCame_none A c _ f _).mono ?_
  rintro e w1 ⟨rfl, rfl⟩
  go_wp2_with fail
  go_end0
  exact ⟨rfl, rfl⟩
theorem sortCame_own (f : Nat) (cf : CameD → CameD → Int) (eg : ∀ args w, (callFunc f args).run Tryz.prog w = .ok (.enter f args) w) (hc : CmpTells Tryz.prog f ndC cf) (v : Value) (base : Nat) (ns : List CameD) (w : World) (h12 : ns.length ≤ 12)
    (h : w.ownsRow base 86 3 v ns.length (ns.flatMap ndC)) :
    Calls Tryz.prog 114 #[v, .func (.func f) #[] #[]] w fun e w' => e = .returned (.tuple #[]) ∧ w'.ownsRow base 86 3 v ns.length ((srt (ltOf cf) ns).flatMap ndC) ∧ w.grownBy w' v.ownBlock := by
  rcases own_nil_or h with ⟨rfl, hn0, hxs⟩ | ⟨g, c, rfl⟩
  · have e0 : ns = [] := List.eq_nil_of_length_eq_zero hn0
    subst e0
    refine (sortCame_none none 0 _ w).mono ?_
    rintro e w1 ⟨rfl, rfl⟩
    exact ⟨rfl, by rw [show srt (ltOf cf) ([] : List CameD) = [] from List.eq_nil_of_length_eq_zero (srt_len _ _)]; exact h, gb_refl _ _⟩
  · have hk : ∀ x : CameD, (ndC x).length = 3 := fun _ => rfl
    have hblk : g < w.heap.size := (h.lt g rfl).2
    have hcl : CmpLays Tryz.prog f #[] ndC 3 cf g 0 ns.toArray.size w := fun m os dk _ x y => by
      simpa using hc x y (sortWorldK ndC 3 w g 0 m dk os)
    have := AnyQ.slices_SortFunc_small Tryz.sortCame 3 Tryz.isAgg86 Tryz.sizeOf86 ndC hk (fun x u hu => by simp [ndC] at hu; rcases hu with rfl | rfl | rfl <;> rfl) cf f #[] g 0 c ns.toArray w eg hcl (own_holds hk (by simpa using h) (by simp)) hblk (by simpa using h12)
      (fun n W hn => (Tryz.bits_Len n W (by omega) (by omega)).mono fun _ _ ⟨he, hw⟩ => ⟨⟨_, he⟩, hw⟩)
    simp only [List.size_toArray] at this
    change Calls Tryz.prog 114 _ _ _ at this
    refine this.mono ?_
    rintro e w1 ⟨rfl, m, os, rfl⟩
    have hs := sort_size (ltOf cf) ns.toArray
    simp only [List.size_toArray] at hs
    have := sortK_own (m := m) (os := os) (d' := insertionSort (ltOf cf) ns.toArray 0 ns.length) (d := ns.toArray) hk (by simpa using h) hs
    exact ⟨rfl, this.1, this.2⟩
set_option maxRecDepth 100000 in
set_option maxHeartbeats 1000000 in
theorem stable_none (A : Option Addr) (c : Nat) (f : Value) (w : World) : Calls Tryz.prog 176 #[.slice A 0 c, .int .i64 0, f] w fun e w' => e = .returned (.tuple #[]) ∧ w = w' := by
  go_enter Tryz.func176, Tryz.ntmps176
  go_wp2_with fail
  refine wp_loop_rounds 1 ?_
  rw [rounds_succ]
  go_wp2_with fail
  refine (insNeed_none A c f _).mono ?_
  rintro e w1 ⟨rfl, rfl⟩
  go_wp2_with fail
  refine wp_loop_rounds 1 ?_
  rw [rounds_succ]
  go_wp2_with fail
  go_end0
  exact ⟨rfl, rfl⟩
set_option maxRecDepth 100000 in
set_option maxHeartbeats 1000000 in
theorem stableNeed_own (f : Nat) (cf : NeedD → NeedD → Int) (eg : ∀ args w, (callFunc f args).run Tryz.prog w = .ok (.enter f args) w) (hc : CmpTells Tryz.prog f ndC cf) (v : Value) (base : Nat) (ns : List NeedD) (w : World) (h12 : ns.length ≤ 12)
    (h : w.ownsRow base 155 3 v ns.length (ns.flatMap ndC)) :
    Calls Tryz.prog 176 #[v, .int .i64 ns.length, .func (.func f) #[] #[]] w fun e w' => e = .returned (.tuple #[]) ∧ w'.ownsRow base 155 3 v ns.length ((srt (ltOf cf) ns).flatMap ndC) ∧ w.grownBy w' v.ownBlock := by
  rcases own_nil_or h with ⟨rfl, hn0, hxs⟩ | ⟨g, c, rfl⟩
  · have e0 : ns = [] := List.eq_nil_of_length_eq_zero hn0
    subst e0
    refine (stable_none none 0 _ w).mono ?_
    rintro e w1 ⟨rfl, rfl⟩
    exact ⟨rfl, by rw [show srt (ltOf cf) ([] : List NeedD) = [] from List.eq_nil_of_length_eq_zero (srt_len _ _)]; exact h, gb_refl _ _⟩
  · have hk : ∀ x : NeedD, (ndC x).length = 3 := fun _ => rfl
    have hblk : g < w.heap.size := (h.lt g rfl).2
    have hcl : CmpLays Tryz.prog f #[] ndC 3 cf g 0 ns.toArray.size w := fun m os dk _ x y => by
      simpa using hc x y (sortWorldK ndC 3 w g 0 m dk os)
    have := AnyQ.insertionSortCmpFunc Tryz.insNeed 3 Tryz.isAgg155 Tryz.sizeOf155 ndC hk (fun x u hu => by simp [ndC] at hu; rcases hu with rfl | rfl | rfl <;> rfl) cf f #[] g 0 c 0 ns.toArray.size ns.toArray w eg hcl (own_holds hk (by simpa using h) (by simp)) hblk (by simp) (by simp) (by simp; omega)
    simp only [List.size_toArray] at this
    change Calls Tryz.prog 205 _ _ _ at this
    have HI := Lib.hid (show Calls Tryz.prog 205 #[.slice (some ⟨g, 0, none⟩) ns.length c, .int .i64 0, .int .i64 ns.length, .func (.func f) #[] #[]] w fun e w' => e = .returned (.tuple #[]) ∧ w'.ownsRow base 155 3 (.slice (some ⟨g, 0, none⟩) ns.length c) ns.length ((srt (ltOf cf) ns).flatMap ndC) ∧ w.grownBy w' (some g) by
      refine this.mono ?_
      rintro e w1 ⟨rfl, m, os, rfl⟩
      have hs := sort_size (ltOf cf) ns.toArray
      simp only [List.size_toArray] at hs
      have := sortK_own (m := m) (os := os) (d' := insertionSort (ltOf cf) ns.toArray 0 ns.length) (d := ns.toArray) hk (by simpa using h) hs
      exact ⟨rfl, this.1, this.2⟩)
    clear this hcl h hk eg hc
    have h20 : ¬ (20 : Int) ≤ (ns.length : Int) := by omega
    have h20' : ¬ (20 : Int) < (ns.length : Int) := by omega
    generalize ns.length = n at *
    go_enter Tryz.func176, Tryz.ntmps176
    go_wp2_with fail
    refine wp_loop_rounds 1 ?_
    rw [rounds_succ]
    go_wp2_with fail
    refine HI.out.mono ?_
    rintro e w1 ⟨rfl, ho, hg⟩
    go_wp2_with fail
    refine wp_loop_rounds 1 ?_
    rw [rounds_succ]
    go_wp2_with fail
    go_end0
    exact ⟨rfl, ho, hg⟩
set_option maxRecDepth 100000 in
set_option maxHeartbeats 1000000 in
theorem sortStable_own (f : Nat) (cf : NeedD → NeedD → Int) (eg : ∀ args w, (callFunc f args).run Tryz.prog w = .ok (.enter f args) w) (hc : CmpTells Tryz.prog f ndC cf) (v : Value) (base : Nat) (ns : List NeedD) (w : World) (h12 : ns.length ≤ 12)
    (h : w.ownsRow base 155 3 v ns.length (ns.flatMap ndC)) :
    Calls Tryz.prog 111 #[v, .func (.func f) #[] #[]] w fun e w' => e = .returned (.tuple #[]) ∧ w'.ownsRow base 155 3 v ns.length ((srt (ltOf cf) ns).flatMap ndC) ∧ w.grownBy w' v.ownBlock := by
  have HI := Lib.hid (stableNeed_own f cf eg hc v base ns w h12 h)
  obtain ⟨A, n, c, rfl⟩ := own_form h
  obtain rfl := own_len h
  clear eg hc h
  go_enter Tryz.func111, Tryz.ntmps111
  go_wp2_with fail
  refine HI.out.mono ?_
  rintro e w1 ⟨rfl, ho, hg⟩
  go_wp2_with fail
  go_end0
  exact ⟨rfl, ho, hg⟩
end Go.Proofs.YtegalkmfoffpfaaGreatDoor
