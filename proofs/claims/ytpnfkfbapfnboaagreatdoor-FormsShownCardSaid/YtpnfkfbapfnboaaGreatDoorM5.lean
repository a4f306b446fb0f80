/- For every slice of ints the law FormsShown returns true and leaves the slice as it was: the row, and its card. Its conditions are the given row's own. -/
import Derived.Test.YtpnfkfbapfnboaaGreatDoorM4
import Derived.Test.YtpnfkfbapfnboaaGreatDoorCards
import Derived.Test.YtpnfkfbapfnboaaGreatDoorTie
import Derived.ProofKit
import Derived.OpenShut
import Derived.LaidMore
import Derived.Lay
import Derived.Stop.Joined
namespace Go.Proofs.YtpnfkfbapfnboaaGreatDoor.formsShownDone
open Go.ChangeShapes Go.WideShapes Go.ChangeAt Go.RowKit Go.Lib
set_option linter.unusedVariables false
set_option linter.unusedSimpArgs false
theorem own : ownKnob Tryz.prog.godebug = none := by kernel_rfl
theorem laidOut : laidOutB Tryz.prog = true := by kernel_rfl
set_option maxRecDepth 100000 in
theorem lifted (os : Os) (started : os.Started) (H : Type) (enc : TypeId × Value → H) :
    ReturnsInHanded {} Tryz.checked os 3 .any (fun w args => (Rows.formsShownSpec.pre enc Tryz.prog Tryz.f3 [] false w args ∧ laidMetH Tryz.prog Rows.formsShownRow.laid w) ∧ sizedMet enc Tryz.prog Tryz.f3 (OpenSpec.ofChange Rows.formsShownSpec) false w args)
      (Rows.formsShownSpec.post enc Tryz.prog Tryz.f3 false true false false) := by
  refine returnsInHanded_of_change_and (C := Tryz.checked) (X := fun w _ => laidMetH Tryz.prog Rows.formsShownRow.laid w) (fun _ _ _ hh h => h.of_heap hh) own started (by kernel_rfl) Tryz.func3
    (ChangeSpec.witness_shaped (enc := enc) (C := Tryz.checked) (os := os) (X := fun w _ => laidMetH Tryz.prog Rows.formsShownRow.laid w) false (World.laidAll Tryz.prog os Rows.formsShownRow.laid) #[.slice none 0 0] 8 (World.laidAll_os _ _ _)
      (World.shaped_of_ZipB (by kernel_rfl) (by kernel_rfl)) (by kernel_rfl) (by kernel_rfl) (by kernel_rfl)
      (by rw [MakeChecks.laidMetH_plain _ _ _ (by kernel_rfl)]; exact laidMet_laidAll _ (by kernel_rfl) (by kernel_rfl))) ?_
  intro W base args ds gs before hval0 hW hx1 hx2 hL hM
  have hval : ∀ (j : Nat) t v, Tryz.f3.params[j]? = some t → args[j]? = some v → Value.okWide Tryz.prog W .any base t v := hval0
  have hW' := hW
  obtain ⟨p, q, hA0, hV, rfl, hfz, hnd⟩ := hW
  have hA : DataW.TrodAll enc Tryz.prog W 0 (fun _ => true) true Tryz.f3.params.toList args.toList ds p := hA0
  rw [Tryz.params3] at hA hval
  obtain ⟨v0, vs0, d0, ds0, p0, q0, hargs, rfl, rfl, h0, r0⟩ := trodAll_cons hA
  obtain ⟨rfl, rfl, rfl⟩ := trodAll_nil r0
  obtain rfl : args = #[v0] := by cases args; simp_all
  obtain ⟨rfl, rfl⟩ := trodVars_none hV
  obtain ⟨a0, len0, cap0, rfl⟩ := okWide_slice Tryz.underlying22 (hval 0 22 v0 rfl rfl)
  have k0 := h0
  have lt0 : ∀ x ∈ p0, x.block < W.heap.size := by obtain ⟨m, hm⟩ := k0; exact DataW.trod_lt m _ _ _ hm
  obtain ⟨z0, w0⟩ : ∃ zs, ARow W a0 len0 cap0 zs := by
    obtain ⟨fuel, hf⟩ := h0
    rcases open_ints Tryz.underlying22 Tryz.underlying3 (by kernel_rfl) hf with ⟨hcs, _⟩ | ⟨x, l, c, zs, hcs, _, hl, hm, hz, hpe, hcell, hwz⟩
    · simp [Value.cells] at hcs
      obtain ⟨rfl, rfl, rfl⟩ := hcs
      exact ⟨[], .inl ⟨rfl, rfl, rfl, rfl⟩⟩
    · simp [Value.cells] at hcs
      obtain ⟨rfl, rfl, rfl⟩ := hcs
      have hp0 : p0 = MemPlace.row x zs.length := (Prod.mk.inj hpe).2
      refine ⟨zs, .inr ⟨_, rfl, hl, hm, by simpa using hz, fun i hi => ⟨hcell i hi, ?_⟩, hwz⟩⟩
      have h1 := hcell 0 (by omega)
      obtain ⟨b, o, sp⟩ := x
      rw [show (⟨b, o, sp⟩ : Addr).add 0 = ⟨b, o, sp⟩ from rfl] at h1
      cases sp with
      | none => rw [Addr.add_lit]; exact hfz b (o + i) (by rw [hp0]; simp only [MemPlace.row, List.append_nil]; exact List.mem_map.2 ⟨i, List.mem_range.2 hi, rfl⟩)
      | some s =>
        simp only [World.cell?] at h1
        split at h1 <;> simp at h1
  clear hA0 hval0
  refine (law_calls g_lawFsh a0 len0 cap0 z0 W w0).mono fun e W' ⟨he, bel⟩ => ?_
  subst he
  exact ⟨_, rfl, _, _, _, [], _, [], hW', trodAll_mk1 (shut_bool Tryz.underlying4 _), (trodAll_cons_mk (Below.trod laidOut (by kernel_rfl) (of_decide_eq_true (by kernel_rfl)) k0 bel lt0) trodAll_mk0), rfl, bel.frame _, fun h => by cases h⟩
theorem tInPlace : (Rows.formsShownRow.inPlace == Tryz.pinned.checked.prog.inPlace 3) = true := by kernel_rfl
theorem tUnfollowed : (Rows.formsShownRow.unfollowed == Tryz.pinned.checked.prog.unfollowed 3) = true := by kernel_rfl
theorem tRecurses : (Rows.formsShownRow.recurses == Tryz.pinned.checked.prog.recurses 3) = true := by kernel_rfl
theorem tNamed : (Rows.formsShownRow.named == Tryz.pinned.checked.prog.varsNamed 3) = true := by kernel_rfl
theorem goes_none {P : Program} (h : P.funcs.toList.any Func.goes = false) (f : FuncId) : P.goes f = false := by
  have ha : P.funcs.any Func.goes = false := by rw [← Array.any_toList]; exact h
  unfold Program.goes
  rw [ha, Bool.and_false, Bool.or_false, List.any_eq_false]
  intro g _
  cases hg : P.funcs[g]? with
  | none => simp
  | some fn =>
    have hm : fn ∈ P.funcs.toList := Array.mem_toList_iff.2 (Array.mem_of_getElem? hg)
    simpa using List.any_eq_false.1 h fn hm
theorem goesBy_none {c : OpenClaim} {P : Program} (h : P.funcs.toList.any Func.goes = false) : false = c.goesBy P := by
  have hf := fun f => goes_none h f
  have h1 : ∀ o : Option FuncId, o.any P.goes = false := fun o => by cases o <;> simp [hf]
  unfold OpenClaim.goesBy Program.goesAt Program.goesFrom
  rw [h1, Bool.false_or]
  split
  · rfl
  · symm; rw [List.any_eq_false]; intro f _; rw [hf]; simp
theorem tAllF : Tryz.pinned.checked.prog.funcs.toList.any Func.goes = false := by kernel_rfl
theorem tGoes : false = Rows.formsShownRow.goesBy Tryz.pinned.checked.prog := goesBy_none tAllF
theorem tLaid : laidOutB Tryz.pinned.checked.prog = true := laidOut
theorem tMaps : mapsRowed Tryz.pinned.checked.prog = true := by kernel_rfl
theorem tKeys : (Rows.formsShownRow.plainKeys == Tryz.pinned.checked.prog.plainKeys) = true := by kernel_rfl
theorem tHeard : Tryz.pinned.checked.prog.stopsHeard = true := by kernel_rfl
theorem tEnter : Tryz.pinned.checked.prog.mayEnter = true := by kernel_rfl
theorem tLifted : (Rows.formsShownRow.lifted == Tryz.pinned.checked.prog.liftsFinal) = true := by kernel_rfl
theorem tMake : (Tryz.pinned.checked.prog.make == some Rows.formsShownRow.make) = true := by kernel_rfl
theorem tClosed : joinedFacts Tryz.pinned.checked.prog 3 Tryz.f3 Rows.formsShownSpec Rows.formsShownRow = true := by
  unfold joinedFacts
  rw [tInPlace, tUnfollowed, tRecurses, tNamed, tLaid, tMaps, tKeys, tHeard, tEnter, tLifted, tMake]
  kernel_rfl
theorem said : Rows.FormsShownSaid :=
  OpenClaim.holds_of_wide 3 Tryz.f3 rfl rfl rfl rfl rfl rfl rfl ⟨rfl, rfl, rfl, rfl, rfl⟩ rfl rfl rfl rfl rfl (by kernel_rfl) Tryz.func3 tClosed
    (of_decide_eq_true (by kernel_rfl)) (by unfold Func.isWrapper; first | (rw [if_pos (by decide +kernel)]; kernel_rfl) | (rw [if_neg (by decide +kernel)]; exact ⟨rfl, rfl⟩))
    (fun os started H enc _ => lifted os started H enc)
theorem plain (f : FuncId) (fn : Func) (hf : Tryz.pinned.checked.prog.funcNamed "signboard/signlaw1.FormsShown" = some f) (hfn : Tryz.pinned.checked.prog.funcs[f]? = some fn) :
    true = Tryz.pinned.checked.prog.looks [] ∧ ∀ (j : Nat) t, fn.params[j]? = some t → Tryz.pinned.checked.prog.wantsStandIn t = false := by
  obtain rfl : f = 3 := Option.some.inj ((show Tryz.prog.funcNamed "signboard/signlaw1.FormsShown" = some 3 by kernel_rfl).symm.trans hf) |>.symm
  obtain rfl : fn = Tryz.f3 := (Option.some.inj (Tryz.func3.symm.trans hfn)).symm
  refine ⟨by kernel_rfl, fun j t ht => ?_⟩
  rw [Tryz.params3] at ht
  obtain rfl : t = 22 := by simpa using Array.mem_of_getElem? ht
  exact (show Tryz.prog.wantsStandIn 22 = false by kernel_rfl)
theorem card : Rows.FormsShownCardSaid :=
  Claim7.holds_tied_plain_at .later [] _ _ _ _ said (fun _ h => by cases h) (by kernel_rfl) (fun _ h => by cases h) formsShown_row_tie rfl ⟨rfl, rfl⟩ (by kernel_rfl) rfl plain tGoes
end Go.Proofs.YtpnfkfbapfnboaaGreatDoor.formsShownDone
