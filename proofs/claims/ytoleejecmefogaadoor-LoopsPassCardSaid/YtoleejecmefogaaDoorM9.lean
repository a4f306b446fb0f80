/- From trees to the machine's own terms: a law that answers true in trees answers true. -/
import Derived.Test.YtoleejecmefogaaDoorM8
import Derived.Below
import Derived.Test.YtoleejecmefogaaDoorCards
import Derived.Test.YtoleejecmefogaaDoorTie
import Derived.ProofKit
import Derived.OpenShut
import Derived.LaidMore
import Derived.Lay
import Derived.Stop.Joined
namespace Go.Proofs.YtoleejecmefogaaDoor
open Go Go.RowKit
/-- A slice of ints that is handed in: zs are all its numbers, up to the capacity. -/
def ARow (w : World) (a : Option Addr) (len cap : Nat) (zs : List Int) : Prop :=
  (a = none ∧ len = 0 ∧ cap = 0 ∧ zs = []) ∨ ∃ b : Addr, a = some b ∧ len ≤ cap ∧ cap ≤ maxLen ∧ zs.length = cap ∧ (∀ i, i < zs.length → w.cell? (b.add i) = some (.int .i64 (zs.getD i 0))) ∧ (∀ n ∈ zs, (Lit.int .i64 n).wf = true)
def G0 (w : World) : Gh := ⟨fun g o => w.cell? ⟨g, o, none⟩, fun _ => none, fun _ => none, 0⟩
def H0 : Hp := ⟨fun _ => none, fun _ => none⟩
theorem hsim_all (w : World) : HSim (G0 w) H0 w where
  val _ _ _ h := h
  obj _ _ h := by cases h
  inj _ _ _ h := absurd rfl h
  tok _ _ h := by cases h
  tinj _ _ _ _ h := absurd rfl h
  tobj _ _ _ h := absurd rfl h
  fat _ _ := rfl
  ftl _ _ := rfl
theorem below_of_fr {G G' : Gh} {h' : Hp} {w w' : World} (f : Fr G H0 w G' h' w') : Below w.heap.size w w' :=
  ⟨f.os, f.tape, f.output, f.size, fun b hb => (f.keep b hb (fun o => by rcases o with ⟨_, h, _⟩ | ⟨_, _, h, _⟩ <;> exact h rfl)).1⟩
theorem rep_v_inv0 {G : Gh} {x y : Value} (h : Rep G (.v x) y) : y = x := by cases h; rfl
theorem flat_encI (l : List Int) : (l.map encI).flatten = l.map fun x => AV.v (.int .i64 x) := by
  induction l with
  | nil => rfl
  | cons x q ih => simp [encI, ih]
theorem arow_rep {w : World} {a : Option Addr} {len cap : Nat} {zs : List Int} (h : ARow w a len cap zs) : ∃ l : List Int, SOk l ∧ Rep (G0 w) (.row 1 (l.map encI) none) (.slice a len cap) := by
  rcases h with ⟨rfl, rfl, rfl, _⟩ | ⟨⟨b, o, sp⟩, rfl, hl, hm, hz, hc, hwz⟩
  · exact ⟨[], ⟨by simp, by simp⟩, .nil 1 none trivial⟩
  · by_cases h0 : cap = 0
    · subst h0
      obtain rfl : len = 0 := by omega
      exact ⟨[], ⟨by simp, by simp⟩, .nilA 1 _⟩
    · have hsp : sp = none := by
        have h1 := hc 0 (by omega)
        rw [show (⟨b, o, sp⟩ : Addr).add 0 = ⟨b, o, sp⟩ from rfl] at h1
        cases sp with
        | none => rfl
        | some s =>
          simp only [World.cell?] at h1
          split at h1 <;> simp at h1
      subst hsp
      refine ⟨zs.take len, ⟨by have hm2 : maxLen = 9223372036854775807 := rfl; rw [List.length_take]; omega, fun x hx => ?_⟩, ?_⟩
      · have h1 := hwz x (List.mem_of_mem_take hx)
        simp only [Lit.wf, Bool.and_eq_true, decide_eq_true_eq] at h1
        exact ⟨h1.1, h1.2⟩
      · have hlen : (zs.take len).length = len := by simp; omega
        have h2 := Rep.row_mk (G := G0 w) (z := 1) (xs := (zs.take len).map encI) (g := b) (o := o) (c := cap) (us := (zs.take len).map fun x => Value.int .i64 x) (by rw [List.length_map, hlen]; exact hl)
          (fun y hy => by obtain ⟨x, _, rfl⟩ := List.mem_map.1 hy; rfl) (by
            rw [flat_encI]
            refine ⟨by simp, fun j a b => ?_⟩
            simp only [List.getElem_map]
            exact ⟨.v _ rfl, rfl⟩) (fun j y hy => by
            rw [List.getElem?_map] at hy
            obtain ⟨x, hx, rfl⟩ := Option.map_eq_some_iff.1 hy
            rw [List.getElem?_take] at hx
            split at hx
            · have hjl := (List.getElem?_eq_some_iff.1 hx).1
              have h3 := hc j hjl
              rw [List.getD_eq_getElem?_getD, hx, Addr.add_lit] at h3
              exact h3
            · cases hx)
        rwa [List.length_map, hlen] at h2
/-- A law of one list of numbers. -/
theorem law_calls {f : Nat} (hlaw : ∀ (l : List Int) (h : Hp), SOk l → ACalls Tryd.prog f [.row 1 (l.map encI) none] h (fun r _ => r = .v (.bool true))) (a : Option Addr) (len cap : Nat) (zs : List Int) (w : World) (h : ARow w a len cap zs) :
    Calls Tryd.prog f #[.slice a len cap] w fun e w' => e = .returned (.bool true) ∧ Below w.heap.size w w' := by
  obtain ⟨l, hl, hrep⟩ := arow_rep h
  refine ((hlaw l H0 hl).calls _ w #[.slice a len cap] (hsim_all w) rfl (fun j hj => ?_)).mono ?_
  · simp only [List.length_cons, List.length_nil, Nat.zero_add, Nat.lt_one_iff] at hj
    subst hj
    exact hrep
  · rintro _ w' ⟨r, h', G', v, rfl, rfl, _, f, _, hv⟩
    exact ⟨by rw [rep_v_inv0 hv], below_of_fr f⟩
end Go.Proofs.YtoleejecmefogaaDoor
/- LoopsPass returns true for every list of numbers. -/
namespace Go.Proofs.YtoleejecmefogaaDoor
open Go
set_option maxRecDepth 100000
set_option maxHeartbeats 8000000
theorem g_law3 (l : List Int) (h : Hp) (hl : SOk l) : ACalls Tryd.prog 3 [.row 1 (l.map encI) none] h (fun r _ => r = .v (.bool true)) := by
  refine acalls_of tyok Tryd.func3 rfl (by kernel_rfl) fun c => ?_; simp only [Tryd.ntmps3, List.length_cons, List.length_nil, Nat.reduceAdd, Nat.reduceSub, jnk_rep, List.cons_append, List.nil_append]
  refine ruG (mdL [(4, 1), (12, 2)]) trivial ?_; (repeat' (with_reducible refine AndQ.mk ?_ ?_)); (all_goals (try ((with_reducible refine kin ?_); intro K1 hK1)))
  intro i hi
  refine hK1 _ ?_; clear hK1 K1
  have e0 : ({ H := upd h.H i (some (.cells [.row 1 (l.map encI) none, .v (.int .i64 0)])), T := h.T } : Hp) = h.st i l 0 := rfl
  rw [e0]
  have hc : costR 3 = 1190 := by simp [costR]
  refine ruG (mdL [(4, 1), (12, 2)]) trivial ?_; (repeat' (with_reducible refine AndQ.mk ?_ ?_)); (all_goals (try ((with_reducible refine kin ?_); intro K1 hK1)))
  refine (g_Loop 3 3 (by omega) i l 0 h hl (by omega)).mono ?_; rintro _ _ ⟨t, a1, ht, ha1, rfl, rfl⟩; refine hK1 _ ?_; clear hK1 K1
  have hlen := encL_len t
  have htk : List.take 6 (encL t) = encL t := List.take_of_length_le (Nat.le_of_eq hlen)
  have hdr : List.drop 6 (encL t) = [] := List.drop_of_length_le (Nat.le_of_eq hlen)
  refine ruG (mdL [(4, 1), (12, 2)]) (And.intro hlen (And.intro htk hdr)) ?_; (repeat' (with_reducible refine AndQ.mk ?_ ?_)); (all_goals (try ((with_reducible refine kin ?_); intro K1 hK1)))
  refine (g_pick i l a1 [0, 1, 2, 5, 12, -1, 5001] none h hl (by omega) (by simp)).mono ?_; rintro _ _ ⟨many, hmany, rfl, rfl⟩; refine hK1 _ ?_; clear hK1 K1
  have hmb : NB many := by simp at hmany; unfold NB; omega
  refine ruG (mdL [(4, 1), (12, 2)]) (And.intro hlen (And.intro htk hdr)) ?_; (repeat' (with_reducible refine AndQ.mk ?_ ?_)); (all_goals (try ((with_reducible refine kin ?_); intro K1 hK1)))
  refine (g_fault6 23 t _ ht (by omega)).mono ?_; rintro _ hz ⟨rfl, hh⟩; refine hK1 _ ?_; clear hK1 K1; rw [hh]; clear hh hz
  refine ruG (mdL [(4, 1), (12, 2)]) (And.intro hlen (And.intro htk hdr)) ?_; (repeat' (with_reducible refine AndQ.mk ?_ ?_)); (all_goals (try ((with_reducible refine kin ?_); intro K1 hK1)))
  refine (g_check7 23 t _ ht (by omega)).mono ?_; rintro _ hz ⟨rfl, hh⟩; refine hK1 _ ?_; clear hK1 K1; rw [hh]; clear hh hz
  refine ruG (mdL [(4, 1), (12, 2)]) (And.intro hlen (And.intro htk hdr)) ?_; (repeat' (with_reducible refine AndQ.mk ?_ ?_)); (all_goals (try ((with_reducible refine kin ?_); intro K1 hK1)))
  refine awp_cond (t := _) rfl (fun h1 => by simp at h1) (fun _ => ?_)
  refine ruG (mdL [(4, 1), (12, 2)]) (And.intro hlen (And.intro htk hdr)) ?_; (repeat' (with_reducible refine AndQ.mk ?_ ?_)); (all_goals (try ((with_reducible refine kin ?_); intro K1 hK1)))
  refine (g_passes 23 t many _ ht (by omega) hmb).mono ?_
  rintro _ h2 rfl
  obtain ⟨xs, hxs, hxl⟩ : ∃ xs : List (ByteArray × Int), wantX 23 t many.toNat = .row 2 (xs.map encStep) none ∧ xs.length ≤ 5000 := by
    unfold wantX
    split
    · exact ⟨_, rfl, by assumption⟩
    · exact ⟨[], rfl, by simp⟩
  have hv : faultF t = 0 → VL 23 t := fun h0 => vl_of 23 t ht (by unfold faultF at h0; split at h0; cases h0; exact h0)
  have hcase : ∃ (ys : List (ByteArray × Int)) (e : Int), ys.length ≤ 5000 ∧ (if faultF t = 0 ∧ 0 ≤ many ∧ many ≤ 5000 then wantX 23 t many.toNat else .row 2 [] none) = .row 2 (ys.map encStep) none ∧ (if faultF t = 0 then if 0 ≤ many ∧ many ≤ 5000 then wantE 23 t many.toNat else 1 else faultF t) = e ∧
      (faultF t = 0 ∧ (0 ≤ many ∧ many ≤ 5000) ∧ ys = xs ∧ e = wantE 23 t many.toNat ∨ (faultF t ≠ 0 ∨ ¬ (0 ≤ many ∧ many ≤ 5000)) ∧ ys = [] ∧ e = (if faultF t = 0 then (if decide (many < 0) || decide (5000 < many) then 1 else 0) else faultF t) ∧ e ≠ 0) := by
    by_cases h1 : faultF t = 0
    · by_cases h2 : 0 ≤ many ∧ many ≤ 5000
      · exact ⟨xs, _, hxl, by rw [if_pos ⟨h1, h2⟩]; exact hxs, rfl, .inl ⟨h1, h2, rfl, by rw [if_pos h1, if_pos h2]⟩⟩
      · have h3 : (decide (many < 0) || decide (5000 < many)) = true := by simp; omega
        exact ⟨[], 1, by simp, by rw [if_neg (fun h => h2 h.2)]; rfl, by rw [if_pos h1, if_neg h2], .inr ⟨.inr h2, rfl, by rw [if_pos h1, if_pos h3], by omega⟩⟩
    · exact ⟨[], faultF t, by simp, by rw [if_neg (fun h => h1 h.1)]; rfl, by rw [if_neg h1], .inr ⟨.inl h1, rfl, by rw [if_neg h1], h1⟩⟩
  obtain ⟨ys, e, hyl, hP, hE, hc2⟩ := hcase
  rw [hP, hE]
  refine hK1 _ ?_; clear hK1 K1
  refine ruG (mdL [(4, 1), (12, 2)]) (And.intro hlen (And.intro htk hdr)) ?_; (repeat' (with_reducible refine AndQ.mk ?_ ?_)); (all_goals (try ((with_reducible refine kin ?_); intro K1 hK1)))
  refine (a_when (decide (many < 0) || decide (5000 < many)) 1 _).mono ?_; rintro _ hz ⟨rfl, hh⟩; refine hK1 _ ?_; clear hK1 K1; rw [hh]; clear hh hz
  refine ruG (mdL [(4, 1), (12, 2)]) (And.intro hlen (And.intro htk hdr)) ?_; (repeat' (with_reducible refine AndQ.mk ?_ ?_)); (all_goals (try ((with_reducible refine kin ?_); intro K1 hK1)))
  refine (g_or9 (faultF t) (if decide (many < 0) || decide (5000 < many) then 1 else 0) _).mono ?_; rintro _ hz ⟨rfl, hh⟩; refine hK1 _ ?_; clear hK1 K1; rw [hh]; clear hh hz
  refine ruG (mdL [(4, 1), (12, 2)]) (And.intro hlen (And.intro htk hdr)) ?_; (repeat' (with_reducible refine AndQ.mk ?_ ?_)); (all_goals (try ((with_reducible refine kin ?_); intro K1 hK1)))
  rcases hc2 with ⟨h1, h2, rfl, rfl⟩ | ⟨h1, rfl, he, hne⟩
  · have h3 : (decide (many < 0) || decide (5000 < many)) = false := by simp; omega
    simp only [h1, h3, if_true, Bool.false_eq_true, if_false]
    refine awp_cond (t := _) rfl (fun _ => ?_) (fun h => by cases h)
    refine ruG (mdL [(4, 1), (12, 2)]) (And.intro hlen (And.intro htk hdr)) ?_; (repeat' (with_reducible refine AndQ.mk ?_ ?_)); (all_goals (try ((with_reducible refine kin ?_); intro K1 hK1)))
    refine (g_passesOf 23 t many _ (hv h1) ht h2).mono ?_
    rintro _ h4 rfl
    rw [hxs]
    refine hK1 _ ?_; clear hK1 K1
    have hbe : (wantE 23 t many.toNat == wantE 23 t many.toNat) = true := by simp
    refine ruG (mdL [(4, 1), (12, 2)]) hbe ?_; (repeat' (with_reducible refine AndQ.mk ?_ ?_)); (all_goals (try ((with_reducible refine kin ?_); intro K1 hK1)))
    refine (g_equal12 ys _ (by omega)).mono ?_; rintro _ hz ⟨rfl, hh⟩; refine ⟨rfl, hK1 _ ?_⟩; clear hK1 K1; rw [hh]; clear hh hz
    refine ruG (mdL [(4, 1), (12, 2)]) hbe ?_; (repeat' (with_reducible refine AndQ.mk ?_ ?_)); (all_goals (try ((with_reducible refine kin ?_); intro K1 hK1)))
    refine (g_looped13 _).mono ?_
    rintro _ h5 rfl
    refine ⟨rfl, hK1 _ ?_⟩; clear hK1 K1
    refine ruG (mdL [(4, 1), (12, 2)]) hbe ?_; (repeat' (with_reducible refine AndQ.mk ?_ ?_)); (all_goals (try ((with_reducible refine kin ?_); intro K1 hK1)))
    refine rtG Tryd.results3 ?_
    exact ⟨_, _, Weak.refl _, Hp.le.refl _, rfl⟩
  · rw [← he]
    have hbe : (e == 0) = false := by simpa using hne
    have hbe2 : (e == e) = true := by simp
    refine awp_cond (t := _) rfl (fun h => by simp [hbe] at h) (fun _ => ?_)
    refine ruG (mdL [(4, 1), (12, 2)]) (And.intro hbe hbe2) ?_; (repeat' (with_reducible refine AndQ.mk ?_ ?_)); (all_goals (try ((with_reducible refine kin ?_); intro K1 hK1)))
    have hq := (g_equal12 [] h2 (by simp)).weakArgs (args' := [.row 2 [] none, .v (.slice none 0 0)]) rfl (fun j a b => by
      rcases j with _ | _ | j
      · exact Weak.refl _
      · exact Weak.nil 2 0 0 ⟨rfl, rfl⟩
      · simp only [List.length_cons, List.length_nil] at a; omega)
    refine hq.mono ?_; rintro _ hz ⟨rfl, hh⟩; refine ⟨rfl, hK1 _ ?_⟩; clear hK1 K1; rw [hh]; clear hh hz
    refine ruG (mdL [(4, 1), (12, 2)]) (And.intro hbe hbe2) ?_; (repeat' (with_reducible refine AndQ.mk ?_ ?_)); (all_goals (try ((with_reducible refine kin ?_); intro K1 hK1)))
    refine (g_looped13 _).mono ?_
    rintro _ h5 rfl
    refine ⟨rfl, hK1 _ ?_⟩; clear hK1 K1
    refine ruG (mdL [(4, 1), (12, 2)]) (And.intro hbe hbe2) ?_; (repeat' (with_reducible refine AndQ.mk ?_ ?_)); (all_goals (try ((with_reducible refine kin ?_); intro K1 hK1)))
    refine rtG Tryd.results3 ?_
    exact ⟨_, _, Weak.refl _, Hp.le.refl _, rfl⟩
end Go.Proofs.YtoleejecmefogaaDoor
/- For every slice of ints the law LoopsPass returns true and leaves the slice as it was: the row, and its card. Its conditions are the given row's own. -/
namespace Go.Proofs.YtoleejecmefogaaDoor.loopsPassDone
open Go.ChangeShapes Go.WideShapes Go.ChangeAt Go.RowKit
set_option linter.unusedVariables false

theorem own : ownKnob Tryd.prog.godebug = none := by kernel_rfl
theorem laidOut : laidOutB Tryd.prog = true := by kernel_rfl

set_option maxRecDepth 100000 in
theorem lifted (os : Os) (started : os.Started) (H : Type) (enc : TypeId × Value → H) :
    ReturnsInHanded {} Tryd.checked os 3 .any (fun w args => (Rows.loopsPassSpec.pre enc Tryd.prog Tryd.f3 [] false w args ∧ laidMetH Tryd.prog Rows.loopsPassRow.laid w) ∧ sizedMet enc Tryd.prog Tryd.f3 (OpenSpec.ofChange Rows.loopsPassSpec) false w args)
      (Rows.loopsPassSpec.post enc Tryd.prog Tryd.f3 false true false false) := by
  refine returnsInHanded_of_change_and (C := Tryd.checked) (X := fun w _ => laidMetH Tryd.prog Rows.loopsPassRow.laid w) (fun _ _ _ hh h => h.of_heap hh) own started (by kernel_rfl) Tryd.func3
    (ChangeSpec.witness_shaped (enc := enc) (C := Tryd.checked) (os := os) (X := fun w _ => laidMetH Tryd.prog Rows.loopsPassRow.laid w) false (World.laidAll Tryd.prog os Rows.loopsPassRow.laid) #[.slice none 0 0] 8 (World.laidAll_os _ _ _)
      (World.shaped_of_ZipB (by kernel_rfl) (by kernel_rfl)) (by kernel_rfl) (by kernel_rfl) (by kernel_rfl)
      (by rw [MakeChecks.laidMetH_plain _ _ _ (by kernel_rfl)]; exact laidMet_laidAll _ (by kernel_rfl) (by kernel_rfl))) ?_
  intro W base args ds gs before hval0 hW _ _ hL _
  have hval : ∀ (j : Nat) t v, Tryd.f3.params[j]? = some t → args[j]? = some v → Value.okWide Tryd.prog W .any base t v := hval0
  have hW' := hW
  obtain ⟨p, q, hA0, hV, rfl, hfz, hnd⟩ := hW
  have hA : DataW.TrodAll enc Tryd.prog W 0 (fun _ => true) true Tryd.f3.params.toList args.toList ds p := hA0
  rw [Tryd.params3] at hA hval
  obtain ⟨v0, vs0, d0, ds0, p0, q0, hargs, rfl, rfl, h0, r0⟩ := trodAll_cons hA
  obtain ⟨rfl, rfl, rfl⟩ := trodAll_nil r0
  obtain rfl : args = #[v0] := by cases args; simp_all
  obtain ⟨rfl, rfl⟩ := trodVars_none hV
  obtain ⟨a0, len0, cap0, rfl⟩ := okWide_slice Tryd.underlying22 (hval 0 22 v0 rfl rfl)
  have k0 := h0
  have lt0 : ∀ x ∈ p0, x.block < W.heap.size := by obtain ⟨m, hm⟩ := k0; exact DataW.trod_lt m _ _ _ hm
  obtain ⟨z0, w0⟩ : ∃ zs, ARow W a0 len0 cap0 zs := by
    obtain ⟨fuel, hf⟩ := h0
    rcases open_ints Tryd.underlying22 Tryd.underlying3 (by kernel_rfl) hf with ⟨hcs, _⟩ | ⟨x, l, c, zs, hcs, _, hl, hm, hz, _, hcell, hwz⟩
    · simp [Value.cells] at hcs
      obtain ⟨rfl, rfl, rfl⟩ := hcs
      exact ⟨[], .inl ⟨rfl, rfl, rfl, rfl⟩⟩
    · simp [Value.cells] at hcs
      obtain ⟨rfl, rfl, rfl⟩ := hcs
      exact ⟨zs, .inr ⟨_, rfl, hl, hm, by simpa using hz, hcell, hwz⟩⟩
  clear hA0 hval0
  refine (law_calls g_law3 a0 len0 cap0 z0 W w0).mono fun e W' ⟨he, bel⟩ => ?_
  subst he
  exact ⟨_, rfl, _, _, _, [], _, [], hW', trodAll_mk1 (shut_bool Tryd.underlying4 _), (trodAll_cons_mk (Below.trod laidOut (by kernel_rfl) (of_decide_eq_true (by kernel_rfl)) k0 bel lt0) trodAll_mk0), rfl, bel.frame _, fun h => by cases h⟩

theorem said : Rows.LoopsPassSaid :=
  OpenClaim.holds_of_wide 3 Tryd.f3 rfl rfl rfl rfl rfl rfl rfl ⟨rfl, rfl, rfl, rfl, rfl⟩ rfl rfl rfl rfl rfl (by kernel_rfl) Tryd.func3 (by kernel_rfl)
    (of_decide_eq_true (by kernel_rfl)) (by unfold Func.isWrapper; first | (rw [if_pos (by decide +kernel)]; kernel_rfl) | (rw [if_neg (by decide +kernel)]; exact ⟨rfl, rfl⟩))
    (fun os started H enc _ => lifted os started H enc)

theorem plain (f : FuncId) (fn : Func) (hf : Tryd.pinned.checked.prog.funcNamed "signboard/signlaw1.LoopsPass" = some f) (hfn : Tryd.pinned.checked.prog.funcs[f]? = some fn) :
    false = Tryd.pinned.checked.prog.looks [] ∧ ∀ (j : Nat) t, fn.params[j]? = some t → Tryd.pinned.checked.prog.wantsStandIn t = false := by
  obtain rfl : f = 3 := Option.some.inj ((show Tryd.prog.funcNamed "signboard/signlaw1.LoopsPass" = some 3 by kernel_rfl).symm.trans hf) |>.symm
  obtain rfl : fn = Tryd.f3 := (Option.some.inj (Tryd.func3.symm.trans hfn)).symm
  refine ⟨by kernel_rfl, fun j t ht => ?_⟩
  rw [Tryd.params3] at ht
  obtain rfl : t = 22 := by simpa using Array.mem_of_getElem? ht
  exact (show Tryd.prog.wantsStandIn 22 = false by kernel_rfl)

theorem card : Rows.LoopsPassCardSaid :=
  Claim7.holds_tied_plain_at .later [] _ _ _ _ said (fun _ h => by cases h) (by kernel_rfl) (fun _ h => by cases h) loopsPass_row_tie rfl ⟨rfl, rfl⟩ (by kernel_rfl) rfl plain (by kernel_rfl)
end Go.Proofs.YtoleejecmefogaaDoor.loopsPassDone
