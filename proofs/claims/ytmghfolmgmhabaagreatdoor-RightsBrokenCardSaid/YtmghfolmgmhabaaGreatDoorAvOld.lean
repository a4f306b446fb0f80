/- From contracts on the machine's terms to contracts in trees: what a call makes and hands back stays. -/
import Derived.Test.YtmghfolmgmhabaaGreatDoorAvRun
import Derived.Below
namespace Go.Proofs.YtmghfolmgmhabaaGreatDoor
open Go Go.RowKit
set_option linter.unusedVariables false
set_option linter.unusedSimpArgs false
theorem Fr.of_below {G : Gh} {h : Hp} {w w' : World} (hb : Below w.heap.size w w') : Fr G h w G h w' :=
  Fr.below (Fr.refl _ _ _) hb.block hb.os hb.tape hb.output hb.size
theorem row_of_own {G : Gh} {h : Hp} {w w' : World} (hs : HSim G h w) (hb : Below w.heap.size w w') {v : Value} {n z : Nat} {E : TypeId} {vs : List Value} {xs : List (List AV)} (ho : w'.ownsRow w.heap.size E z v n vs) (hn : xs.length = n) (hz : ∀ x ∈ xs, x.length = z) (hr : RepL G xs.flatten vs) :
    ∃ G', GLe G G' ∧ Fr G h w G' h w' ∧ HSim G' h w' ∧ Rep G' (.row z xs none) v := by
  have hs' := hs.below hb.block
  have hf : Fr G h w G h w' := Fr.of_below hb
  obtain ⟨hl, ho⟩ := ho
  rcases ho with ⟨rfl, h0⟩ | ⟨g, cap, cur, rfl, hg, hh, hnc, hcm, hsz, htk⟩
  · subst h0
    obtain rfl : xs = [] := List.eq_nil_of_length_eq_zero hn
    exact ⟨G, GLe.refl _, hf, hs', .nil z none trivial⟩
  · have hv : ∀ o, G.val g o = none := fun o => hs.val_new hg o
    have hO : ¬ Own G h g := fun o => by have := hs.own_lt o; omega
    have hle := Gh.ext_le g cur.toList hv
    refine ⟨G.ext g cur.toList, hle, hf.ext hg, hs'.ext (E := E) hv hO (by simpa using hh), ?_⟩
    subst hn
    refine Rep.row_mk (g := g) (o := 0) (us := vs) hnc hz (hr.mono hle) (fun j y hy => ?_)
    rw [← htk, List.getElem?_take] at hy
    split at hy
    · simpa [Gh.ext] using hy
    · cases hy
theorem acalls_mk {P : Program} {f : Nat} {args : List AV} {h : Hp} {R : AV → Hp → Prop} (hok : fnOk P f = true)
    (hc : ∀ G w (vs : Array Value), HSim G h w → vs.size = args.length → (∀ j (hj : j < args.length), Rep G args[j] (vs.getD j undef)) →
      Calls P f vs w fun e w' => ∃ v, e = .returned v ∧ ∃ r h' G', R r h' ∧ GLe G G' ∧ Fr G h w G' h' w' ∧ HSim G' h' w' ∧ Rep G' r v) : ACalls P f args h R :=
  ⟨hok, fun G w vs hs hl ha => (hc G w vs hs hl ha).mono fun _ _ ⟨v, e, r, h', G', a, b, c, d, f⟩ => ⟨r, h', G', v, e, a, b, c, d, f⟩⟩
end Go.Proofs.YtmghfolmgmhabaaGreatDoor

