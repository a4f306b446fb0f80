/- Regions that draw their order: one order told, all orders meant. -/
import Derived.Test.YtpnfkfbapfnboaaGreatDoorAvDraw2
namespace Go.Proofs.YtpnfkfbapfnboaaGreatDoor
open Go
set_option linter.unusedVariables false
set_option linter.unusedSimpArgs false
section
variable {P : Program} {ty : Nat → Option TyD} {md : Option Tmp → Nat} {all : Array Oper}
def stepI (P : Program) (ty : Nat → Option TyD) (md : Option Tmp → Nat) (all : Array Oper) (i : Nat) (s : St) (K : St → Prop) : Prop :=
  match all[i]? with
  | some o => gStep P ty md all o s.sl s.lo s.h fun lo' h' x => K (({ sl := s.sl, lo := lo', h := h' } : St).put o.dst x)
  | none => False
def vIdx (P : Program) (ty : Nat → Option TyD) (md : Option Tmp → Nat) (all : Array Oper) : List Nat → St → (St → Prop) → Prop
  | [], s, K => K s
  | i :: r, s, K => stepI P ty md all i s fun s' => vIdx P ty md all r s' K
def reI (P : Program) (ty : Nat → Option TyD) (md : Option Tmp → Nat) (all : Array Oper) (i : Nat) (s : St) : Prop :=
  match all[i]? with
  | some o => match o.dst with
    | some d => gStep P ty md all o s.sl s.lo s.h (kEq s.lo s.h (s.sl.getD d .junk))
    | none => False
  | none => False
def reL (P : Program) (ty : Nat → Option TyD) (md : Option Tmp → Nat) (all : Array Oper) : List Nat → St → Prop
  | [], _ => True
  | i :: r, s => reI P ty md all i s ∧ reL P ty md all r s
def vRest (P : Program) (ty : Nat → Option TyD) (md : Option Tmp → Nat) (all : Array Oper) : List (Nat × List Nat × List Nat) → St → (St → Prop) → Prop
  | [], s, K => K s
  | (l, R, E) :: r, s, K => stepI P ty md all l s fun s2 => reL P ty md all R s2 ∧ vIdx P ty md all E s2 fun s3 => vRest P ty md all r s3 K
theorem reL_mem : ∀ {R : List Nat} {s : St} (_ : reL P ty md all R s) {i : Nat} (_ : i ∈ R), reI P ty md all i s
  | j :: R, s, h, i, hi => by
    rcases List.mem_cons.1 hi with rfl | hi
    · exact h.1
    · exact reL_mem h.2 hi

def bit (A : List Nat) (i j : Nat) : Bool := (A.getD j 0).testBit i
def ancs (all : Array Oper) : List Nat :=
  all.toList.foldl (fun acc o => acc ++ [o.after.toList.foldl (fun s e => if Region.binds .any e then s ||| 2 ^ e.on ||| acc.getD e.on 0 else s) 0]) []
def okAnc (all : Array Oper) (A : List Nat) : Bool :=
  (List.range all.size).all fun j => match all[j]? with
    | some o => (o.after.toList.all fun e => !Region.binds .any e || decide (e.on < j)) && (List.range all.size).all fun i => !bit A i j || o.after.toList.any fun e => Region.binds .any e && (e.on == i || bit A i e.on)
    | none => false
theorem okAnc_edge {A : List Nat} (h : okAnc all A = true) {j : Nat} {o : Oper} (ho : all[j]? = some o) : ∀ e ∈ o.after, Region.binds .any e = true → e.on < j := by
  intro e he hb
  simp only [okAnc, List.all_eq_true, List.mem_range] at h
  have h1 := h j (Array.getElem?_eq_some_iff.1 ho).1
  rw [ho] at h1
  simp only [Bool.and_eq_true, List.all_eq_true] at h1
  have h2 := h1.1 e (by simpa using he)
  rw [hb] at h2
  simpa using h2
theorem okAnc_bit {A : List Nat} (h : okAnc all A = true) {i j : Nat} {o : Oper} (ho : all[j]? = some o) (hi : i < all.size) (hb : bit A i j = true) : ∃ e ∈ o.after, Region.binds .any e = true ∧ (e.on = i ∨ bit A i e.on = true) := by
  simp only [okAnc, List.all_eq_true, List.mem_range] at h
  have h1 := h j (Array.getElem?_eq_some_iff.1 ho).1
  rw [ho] at h1
  simp only [Bool.and_eq_true, List.all_eq_true, List.mem_range] at h1
  have h2 := h1.2 i hi
  rw [hb] at h2
  simp only [Bool.not_true, Bool.false_or, List.any_eq_true, Bool.and_eq_true, Bool.or_eq_true, beq_iff_eq] at h2
  obtain ⟨e, he, h3, h4⟩ := h2
  exact ⟨e, by simpa using he, h3, h4⟩
def ClosedX (all : Array Oper) (X : Nat → Bool) : Prop := ∀ (j : Nat) (o : Oper), all[j]? = some o → X j = true → ∀ e ∈ o.after, Region.binds .any e = true → X e.on = true
theorem anc_listed {A : List Nat} (h : okAnc all A = true) {X : Nat → Bool} (hX : ClosedX all X) {i : Nat} (hi : i < all.size) : ∀ (j : Nat) {o : Oper} (_ : all[j]? = some o) (_ : ∀ e ∈ o.after, Region.binds .any e = true → X e.on = true) (_ : bit A i j = true), X i = true := by
  intro j
  induction j using Nat.strongRecOn with
  | _ j ih =>
    intro o ho hdeps hb
    obtain ⟨e, he, hbe, h1⟩ := okAnc_bit h ho hi hb
    have hXe := hdeps e he hbe
    rcases h1 with rfl | h1
    · exact hXe
    · have hlt := okAnc_edge h ho e he hbe
      have hjn := (Array.getElem?_eq_some_iff.1 ho).1
      have hej : e.on < all.size := by omega
      exact ih e.on hlt (Array.getElem?_eq_getElem hej) (hX e.on _ (Array.getElem?_eq_getElem hej) hXe) h1
def dstOf (all : Array Oper) (i : Nat) : Option Tmp := (all[i]?).bind (·.dst)
def allE (E0 : List Nat) (pl : List (Nat × List Nat × List Nat)) : List Nat := E0 ++ pl.flatMap fun p => p.1 :: p.2.2
def quietI (md : Option Tmp → Nat) (all : Array Oper) (i : Nat) : Bool := match all[i]? with | some o => quietB md o && plainB o && o.dst.isSome | none => false
def nodupB : List Nat → Bool
  | [] => true
  | x :: xs => !xs.contains x && nodupB xs
def sortedB : List Nat → Bool
  | [] => true
  | x :: xs => (xs.all fun y => decide (x < y)) && sortedB xs
def planOk (md : Option Tmp → Nat) (all : Array Oper) (A : List Nat) (prev : List Nat) : List (Nat × List Nat × List Nat) → Bool
  | [] => true
  | (l, R, E) :: r => sortedB E && (prev.all fun i => !bit A l i && E.all fun k => !bit A k i) && (r.all fun q => bit A l q.1) && ((E ++ r.flatMap fun q => q.2.2).all fun i => bit A l i) && E.all (quietI md all) &&
      (prev.all fun i => bit A i l || R.contains i || match all[i]? with | some o => !isRead o | none => false) && planOk md all A (prev ++ E) r
def readsOk (all : Array Oper) (A : List Nat) (louds : List Nat) : Bool :=
  (List.range all.size).all fun i => match all[i]? with
    | some o => (List.range all.size).all fun k => match dstOf all k with
        | some t => !(readsOf all o).contains t || (k != i && (bit A k i || (bit A i k && louds.contains k)))
        | none => true
    | none => false
def dstsOk (all : Array Oper) (n : Nat) : Bool := nodupB (all.toList.filterMap (·.dst)) && (all.toList.filterMap (·.dst)).all fun d => decide (d < n)
def drawOk (md : Option Tmp → Nat) (all : Array Oper) (n : Nat) (E0 : List Nat) (pl : List (Nat × List Nat × List Nat)) : Bool :=
  let A := ancs all
  okAnc all A && nodupB (allE E0 pl) && ((List.range all.size).all fun i => (allE E0 pl).contains i) && ((allE E0 pl).all fun i => decide (i < all.size)) && E0.all (quietI md all) && sortedB E0 && planOk md all A E0 pl && readsOk all A (pl.map (·.1)) && dstsOk all n
end
end Go.Proofs.YtpnfkfbapfnboaaGreatDoor

