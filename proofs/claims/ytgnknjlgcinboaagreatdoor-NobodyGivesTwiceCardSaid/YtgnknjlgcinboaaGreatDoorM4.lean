/- signkeep1.ready answers true: a closed run. -/
import Derived.Test.YtgnknjlgcinboaaGreatDoorM3
import Derived.Below
import Derived.Test.YtgnknjlgcinboaaGreatDoorAvFz
import Derived.Test.YtgnknjlgcinboaaGreatDoorAvRun
import Derived.Test.YtgnknjlgcinboaaGreatDoorAvMap
import Derived.Deep.DeepCutAuto
namespace Go.Proofs.YtgnknjlgcinboaaGreatDoor
open Go
set_option linter.unusedVariables false
set_option linter.unusedSimpArgs false
open Nat renaming reduceAdd → nA, reduceSub → nB, reduceMul → nC, reduceLT → nD, reduceLeDiff → nE, reduceEqDiff → nF, reduceMod → nG, reduceDiv → nH, reducePow → nI
set_option maxRecDepth 100000
set_option maxHeartbeats 8000000
theorem ty23 : ty 23 = some ⟨1, 8, .ptr 25, [.v (.pointer none)], []⟩ := by kernel_rfl
theorem ty25 : ty 25 = some ⟨2, 32, .struct [(0, 22), (1, 3)], [.v (.slice none 0 0), .v (.int .i64 0)], []⟩ := by kernel_rfl
theorem sd25 : structD ty 25 = some ⟨2, 32, .struct [(0, 22), (1, 3)], [.v (.slice none 0 0), .v (.int .i64 0)], []⟩ := by kernel_rfl
theorem fd25_0 : fdd ty 25 0 = some (0, ⟨1, 24, .slice 3, [.v (.slice none 0 0)], []⟩) := by kernel_rfl
theorem pl25_0 : places ty 25 0 = some (0, 1) := by kernel_rfl
theorem fd25_1 : fdd ty 25 1 = some (1, ⟨1, 8, .int .i64, [.v (.int .i64 0)], []⟩) := by kernel_rfl
theorem pl25_1 : places ty 25 1 = some (1, 1) := by kernel_rfl
theorem at25 : allTy ty ⟨2, 32, .struct [(0, 22), (1, 3)], [.v (.slice none 0 0), .v (.int .i64 0)], []⟩ = true := by kernel_rfl
theorem ty60 : ty 60 = some ⟨1, 24, .slice 71, [.v (.slice none 0 0)], []⟩ := by kernel_rfl
theorem el60 : elemD ty 60 = some ⟨2, 40, .struct [(0, 9), (1, 22)], [.v (.string ⟨#[]⟩), .v (.slice none 0 0)], []⟩ := by kernel_rfl
theorem ty62 : ty 62 = some ⟨1, 24, .slice 142, [.v (.slice none 0 0)], []⟩ := by kernel_rfl
theorem el62 : elemD ty 62 = some ⟨2, 32, .struct [(0, 9), (1, 9)], [.v (.string ⟨#[]⟩), .v (.string ⟨#[]⟩)], [.s, .s]⟩ := by kernel_rfl
theorem ty66 : ty 66 = some ⟨1, 24, .slice 74, [.v (.slice none 0 0)], []⟩ := by kernel_rfl
theorem el66 : elemD ty 66 = some ⟨4, 48, .struct [(0, 3), (1, 9), (2, 9), (3, 3)], [.v (.int .i64 0), .v (.string ⟨#[]⟩), .v (.string ⟨#[]⟩), .v (.int .i64 0)], [.i, .s, .s, .i]⟩ := by kernel_rfl
theorem ty69 : ty 69 = some ⟨1, 8, .map 9 22, [.v (.map none)], []⟩ := by kernel_rfl
theorem mp69 : mapD ty 69 = some ⟨1, 24, .slice 3, [.v (.slice none 0 0)], []⟩ := by kernel_rfl
theorem ty71 : ty 71 = some ⟨2, 40, .struct [(0, 9), (1, 22)], [.v (.string ⟨#[]⟩), .v (.slice none 0 0)], []⟩ := by kernel_rfl
theorem sd71 : structD ty 71 = some ⟨2, 40, .struct [(0, 9), (1, 22)], [.v (.string ⟨#[]⟩), .v (.slice none 0 0)], []⟩ := by kernel_rfl
theorem fd71_0 : fdd ty 71 0 = some (0, ⟨1, 16, .str, [.v (.string ⟨#[]⟩)], []⟩) := by kernel_rfl
theorem pl71_0 : places ty 71 0 = some (0, 1) := by kernel_rfl
theorem fd71_1 : fdd ty 71 1 = some (1, ⟨1, 24, .slice 3, [.v (.slice none 0 0)], []⟩) := by kernel_rfl
theorem pl71_1 : places ty 71 1 = some (1, 1) := by kernel_rfl
theorem at71 : allTy ty ⟨2, 40, .struct [(0, 9), (1, 22)], [.v (.string ⟨#[]⟩), .v (.slice none 0 0)], []⟩ = true := by kernel_rfl
theorem ty74 : ty 74 = some ⟨4, 48, .struct [(0, 3), (1, 9), (2, 9), (3, 3)], [.v (.int .i64 0), .v (.string ⟨#[]⟩), .v (.string ⟨#[]⟩), .v (.int .i64 0)], [.i, .s, .s, .i]⟩ := by kernel_rfl
theorem sd74 : structD ty 74 = some ⟨4, 48, .struct [(0, 3), (1, 9), (2, 9), (3, 3)], [.v (.int .i64 0), .v (.string ⟨#[]⟩), .v (.string ⟨#[]⟩), .v (.int .i64 0)], [.i, .s, .s, .i]⟩ := by kernel_rfl
theorem fd74_0 : fdd ty 74 0 = some (0, ⟨1, 8, .int .i64, [.v (.int .i64 0)], []⟩) := by kernel_rfl
theorem pl74_0 : places ty 74 0 = some (0, 1) := by kernel_rfl
theorem fd74_1 : fdd ty 74 1 = some (1, ⟨1, 16, .str, [.v (.string ⟨#[]⟩)], []⟩) := by kernel_rfl
theorem pl74_1 : places ty 74 1 = some (1, 1) := by kernel_rfl
theorem fd74_2 : fdd ty 74 2 = some (2, ⟨1, 16, .str, [.v (.string ⟨#[]⟩)], []⟩) := by kernel_rfl
theorem pl74_2 : places ty 74 2 = some (2, 1) := by kernel_rfl
theorem fd74_3 : fdd ty 74 3 = some (3, ⟨1, 8, .int .i64, [.v (.int .i64 0)], []⟩) := by kernel_rfl
theorem pl74_3 : places ty 74 3 = some (3, 1) := by kernel_rfl
theorem at74 : allTy ty ⟨4, 48, .struct [(0, 3), (1, 9), (2, 9), (3, 3)], [.v (.int .i64 0), .v (.string ⟨#[]⟩), .v (.string ⟨#[]⟩), .v (.int .i64 0)], [.i, .s, .s, .i]⟩ = true := by kernel_rfl
attribute [go_sem] ty23 ty25 sd25 fd25_0 pl25_0 fd25_1 pl25_1 at25 ty60 el60 ty62 el62 ty66 el66 ty69 mp69 ty71 sd71 fd71_0 pl71_0 fd71_1 pl71_1 at71 ty74 sd74 fd74_0 pl74_0 fd74_1 pl74_1 fd74_2 pl74_2 fd74_3 pl74_3 at74
abbrev zM40 : Option Tmp → Nat := mdL [(5, 2)]
abbrev zM41 : Option Tmp → Nat := mdL [(11, 1), (17, 1), (19, 1), (21, 1), (24, 1), (27, 2)]
attribute [go_sem] zM40 zM41
theorem g_ready (h : Hp) : ACalls Tryz.prog 37 [] h (fun r _ => r = .v (.bool true)) := by
 have h1 := fun h => g_miss5 h
 have h2 := fun h => g_round1 h
 have h3 := fun h => g_done1 h
 have h4 := fun h => g_bind1 h
 have e5 : (s5 == ⟨#[53]⟩) = true := by decide
 unfold lA nlS at h2
 unfold kA at h3
 rw [fC_eq] at h4
 unfold sT at h4
 refine gE Tryz.func37 rfl (by kernel_rfl) 75 rfl fun c => ?_
 (repeat (first | refine gO rfl ?_ | (refine gR fun K1 hK1 => ?_; simp only [go_sem, ↓reduceIte, reduceCtorEq, nA, nB, nC, nD, nE, nF, Int.reduceBEq, Int.reduceTMod, Int.reduceTDiv, Int.reduceMul, Int.reduceBNe, Int.reduceLT, Int.reduceLE, Int.reduceAdd, Int.reduceSub, Int.reduceNeg, decide_true, decide_false, Bool.true_and, Bool.false_and, Bool.and_true, Bool.and_false, Bool.or_false, Bool.or_true, Bool.true_or, Bool.false_or, Bool.not_true, Bool.not_false, true_implies, false_implies, true_and, and_true, Int.reduceToNat] <;> and_intros <;> first | (apply hK1; clear hK1 K1) | (intros; first | omega | decide) | skip) | (refine awp_cond (t := _) rfl (fun hq => ?_) (fun hq => ?_) <;> first | (exact absurd hq (by decide)) | (cases hq; done) | (clear hq)) | (refine awp_un 8 ?_) | (with_reducible exact rfl) | (with_reducible exact trivial) | ((with_reducible show uside _); first | exact True.intro | exact rfl) | ((with_reducible show opS _ _); exact True.intro) | (refine ⟨AV.v (.bool true), rfl, hK1 _ ?_⟩; clear hK1 K1)))
 refine (h1 _).mono ?_
 rintro _ ha rfl
 refine hK1 _ ?_; clear hK1 K1 h1
 (repeat (first | refine gO rfl ?_ | (refine gR fun K1 hK1 => ?_; simp only [go_sem, ↓reduceIte, reduceCtorEq, nA, nB, nC, nD, nE, nF, Int.reduceBEq, Int.reduceTMod, Int.reduceTDiv, Int.reduceMul, Int.reduceBNe, Int.reduceLT, Int.reduceLE, Int.reduceAdd, Int.reduceSub, Int.reduceNeg, decide_true, decide_false, Bool.true_and, Bool.false_and, Bool.and_true, Bool.and_false, Bool.or_false, Bool.or_true, Bool.true_or, Bool.false_or, Bool.not_true, Bool.not_false, true_implies, false_implies, true_and, and_true, Int.reduceToNat] <;> and_intros <;> first | (apply hK1; clear hK1 K1) | (intros; first | omega | decide) | skip) | (refine awp_cond (t := _) rfl (fun hq => ?_) (fun hq => ?_) <;> first | (exact absurd hq (by decide)) | (cases hq; done) | (clear hq)) | (refine awp_un 8 ?_) | (with_reducible exact rfl) | (with_reducible exact trivial) | ((with_reducible show uside _); first | exact True.intro | exact rfl) | ((with_reducible show opS _ _); exact True.intro) | (refine ⟨AV.v (.bool true), rfl, hK1 _ ?_⟩; clear hK1 K1)))
 refine (h2 _).mono ?_
 rintro _ hb rfl
 refine hK1 _ ?_; clear hK1 K1 h2
 (repeat (first | refine gO rfl ?_ | (refine gR fun K1 hK1 => ?_; simp only [go_sem, ↓reduceIte, reduceCtorEq, nA, nB, nC, nD, nE, nF, Int.reduceBEq, Int.reduceTMod, Int.reduceTDiv, Int.reduceMul, Int.reduceBNe, Int.reduceLT, Int.reduceLE, Int.reduceAdd, Int.reduceSub, Int.reduceNeg, decide_true, decide_false, Bool.true_and, Bool.false_and, Bool.and_true, Bool.and_false, Bool.or_false, Bool.or_true, Bool.true_or, Bool.false_or, Bool.not_true, Bool.not_false, true_implies, false_implies, true_and, and_true, Int.reduceToNat] <;> and_intros <;> first | (apply hK1; clear hK1 K1) | (intros; first | omega | decide) | skip) | (refine awp_cond (t := _) rfl (fun hq => ?_) (fun hq => ?_) <;> first | (exact absurd hq (by decide)) | (cases hq; done) | (clear hq)) | (refine awp_un 8 ?_) | (with_reducible exact rfl) | (with_reducible exact trivial) | ((with_reducible show uside _); first | exact True.intro | exact rfl) | ((with_reducible show opS _ _); exact True.intro) | (refine ⟨AV.v (.bool true), rfl, hK1 _ ?_⟩; clear hK1 K1)))
 refine (h3 _).mono ?_
 rintro _ hd rfl
 refine hK1 _ ?_; clear hK1 K1 h3
 (repeat (first | refine gO rfl ?_ | (refine gR fun K1 hK1 => ?_; simp only [go_sem, ↓reduceIte, reduceCtorEq, nA, nB, nC, nD, nE, nF, Int.reduceBEq, Int.reduceTMod, Int.reduceTDiv, Int.reduceMul, Int.reduceBNe, Int.reduceLT, Int.reduceLE, Int.reduceAdd, Int.reduceSub, Int.reduceNeg, decide_true, decide_false, Bool.true_and, Bool.false_and, Bool.and_true, Bool.and_false, Bool.or_false, Bool.or_true, Bool.true_or, Bool.false_or, Bool.not_true, Bool.not_false, true_implies, false_implies, true_and, and_true, Int.reduceToNat] <;> and_intros <;> first | (apply hK1; clear hK1 K1) | (intros; first | omega | decide) | skip) | (refine awp_cond (t := _) rfl (fun hq => ?_) (fun hq => ?_) <;> first | (exact absurd hq (by decide)) | (cases hq; done) | (clear hq)) | (refine awp_un 8 ?_) | (with_reducible exact rfl) | (with_reducible exact trivial) | ((with_reducible show uside _); first | exact True.intro | exact rfl) | ((with_reducible show opS _ _); exact True.intro) | (refine ⟨AV.v (.bool true), rfl, hK1 _ ?_⟩; clear hK1 K1)))
 refine (h4 _).mono ?_
 rintro _ he rfl
 refine hK1 _ ?_; clear hK1 K1 h4
 (repeat (first | refine gO rfl ?_ | (refine gR fun K1 hK1 => ?_; simp only [go_sem, ↓reduceIte, reduceCtorEq, nA, nB, nC, nD, nE, nF, Int.reduceBEq, Int.reduceTMod, Int.reduceTDiv, Int.reduceMul, Int.reduceBNe, Int.reduceLT, Int.reduceLE, Int.reduceAdd, Int.reduceSub, Int.reduceNeg, decide_true, decide_false, Bool.true_and, Bool.false_and, Bool.and_true, Bool.and_false, Bool.or_false, Bool.or_true, Bool.true_or, Bool.false_or, Bool.not_true, Bool.not_false, true_implies, false_implies, true_and, and_true, Int.reduceToNat, e5] <;> and_intros <;> first | (apply hK1; clear hK1 K1) | (intros; first | omega | decide) | skip) | (refine awp_cond (t := _) rfl (fun hq => ?_) (fun hq => ?_) <;> first | (exact absurd hq (by decide)) | (cases hq; done) | (clear hq)) | (refine awp_un 8 ?_) | (with_reducible exact rfl) | (with_reducible exact trivial) | ((with_reducible show uside _); first | exact True.intro | exact rfl) | ((with_reducible show opS _ _); exact True.intro) | (refine ⟨AV.v (.bool true), rfl, hK1 _ ?_⟩; clear hK1 K1)))
 simp only [Tryz.results37, go_sem, ↓reduceIte, reduceCtorEq, nA, nB, nC, nD, nE, nF]
 exact ⟨_, _, Weak.refl _, Hp.le.refl _, rfl⟩
open Go Go.RowKit
def G0 (w : World) : Gh := ⟨fun g o => cellT w g o, fun _ => none, fun _ => none, 0⟩
def H0 : Hp := ⟨fun _ => none, fun _ => none⟩
theorem hsim_all (w : World) : HSim (G0 w) H0 w where
 val _ _ _ h := h
 obj _ _ h := by cases h
 inj _ _ _ h := absurd rfl h
 tok _ _ h := by cases h
 tinj _ _ _ _ h := absurd rfl h
 tobj _ _ _ h := absurd rfl h
 fat _ _ := rfl
 ftl _ _ := rfl
theorem below_of_fr {G G' : Gh} {h' : Hp} {w w' : World} (f : Fr G H0 w G' h' w') : Below w.heap.size w w' :=
 ⟨f.os, f.tape, f.output, f.size, fun b hb => (f.keep b hb (fun o => by rcases o with ⟨_, h, _⟩ | ⟨_, _, h, _⟩ <;> exact h rfl)).1⟩
theorem rep_v_inv0 {G : Gh} {x y : Value} (h : Rep G (.v x) y) : y = x := by cases h; rfl
theorem flat_encI (l : List Int) : (l.map encI).flatten = l.map fun x => AV.v (.int .i64 x) := by
 induction l with
 | nil => rfl
 | cons x q ih => simp [encI, ih]
theorem ready_any (w : World) : Calls Tryz.prog 37 #[] w fun e w' => e = .returned (.bool true) ∧ Below w.heap.size w w' := by
 refine ((g_ready H0).calls _ w #[] (hsim_all w) rfl (fun j hj => by simp at hj)).mono ?_
 rintro _ w' ⟨r, h', G', v, rfl, rfl, _, f, _, hv⟩
 exact ⟨by rw [rep_v_inv0 hv], below_of_fr f⟩
theorem WL.refl (cs : List AV) : WL cs cs := ⟨rfl, fun _ => Weak.refl _⟩
section
variable {P : Program} {c : Cx} {Q : Exit → St → Prop} {s : St}
end
open Go
set_option linter.unusedVariables false
set_option linter.unusedSimpArgs false
set_option maxRecDepth 100000
def LT.kd : LT → Int
 | .mk k _ _ _ _ _ => k
def LT.mn : LT → Int
 | .mk _ _ _ m _ _ => m
def LT.ks : LT → List LT
 | .mk _ _ _ _ l _ => l
def LT.hd (t : LT) : LT := t.ks.getD 0 default
def repK (n : Int) (l : List LT) : LT := .mk 5 ⟨#[]⟩ 0 n l []
def rowT (l : List LT) : LT := .mk 2 ⟨#[]⟩ 0 0 l []
def cnt (t : LT) : Option (LT × Int) := if t.kd = 1 then some (t, 1) else if t.kd = 5 ∧ t.hd.kd = 1 then some (t.hd, t.mn) else none
open Classical in
noncomputable def runN (it : LT) : List LT → Int × Nat
 | [] => (0, 0)
 | x :: xs => match cnt x with
  | some (y, n) => if y = it then (n + (runN it xs).1, (runN it xs).2 + 1) else (0, 0)
  | none => (0, 0)
def manyT (it : LT) (n : Nat) : List LT := List.replicate (n / 100) (repK 100 [it]) ++ if n % 100 = 0 then [] else if n % 100 = 1 then [it] else [repK (n % 100 : Nat) [it]]
noncomputable def gathF : Nat → List LT → List LT
 | 0, _ => []
 | _ + 1, [] => []
 | f + 1, x :: xs => match cnt x with
  | none => x :: gathF f xs
  | some (it, n) => manyT it (n + (runN it xs).1).toNat ++ gathF f (xs.drop (runN it xs).2)
noncomputable def gath (l : List LT) : List LT := gathF l.length l
def flatT (l : List LT) : List LT := l.flatMap fun k => if k.kd = 2 then k.ks else [k]
def gcdN : List Nat → Nat
 | [] => 0
 | x :: xs => Nat.gcd x (gcdN xs)
def gcdI (l : List Int) : Nat := gcdN (l.map Int.toNat)
def divI (g : Nat) (l : List Int) : List Int := l.map fun x => x / (g : Int)
def plainT : LT → Bool
 | .mk kind _ _ _ kids _ => kind != 3 && kind != 4 && (kids.map plainT).all id
def WF : LT → Prop
 | .mk kind item long many kids shares => (1 ≤ kind ∧ kind ≤ 5) ∧ (kind = 1 → kids = [] ∧ shares = [] ∧ many = 0) ∧ (kind ≠ 1 → item = ⟨#[]⟩ ∧ long = 0 ∧ kids ≠ []) ∧ (kind = 5 → kids.length = 1 ∧ 1 ≤ many ∧ many ≤ 100) ∧ (kind ≠ 5 → many = 0) ∧
   (kind = 4 → shares.length = kids.length) ∧ (kind ≠ 4 → shares = []) ∧ (∀ x ∈ shares, 1 ≤ x ∧ x ≤ 1000) ∧ (NB long ∧ item.size ≤ 2) ∧ ∀ k ∈ kids, WF k
theorem WF_eq (kind : Int) (item : ByteArray) (long many : Int) (kids : List LT) (shares : List Int) : WF (.mk kind item long many kids shares) = ((1 ≤ kind ∧ kind ≤ 5) ∧ (kind = 1 → kids = [] ∧ shares = [] ∧ many = 0) ∧ (kind ≠ 1 → item = ⟨#[]⟩ ∧ long = 0 ∧ kids ≠ []) ∧ (kind = 5 → kids.length = 1 ∧ 1 ≤ many ∧ many ≤ 100) ∧ (kind ≠ 5 → many = 0) ∧
   (kind = 4 → shares.length = kids.length) ∧ (kind ≠ 4 → shares = []) ∧ (∀ x ∈ shares, 1 ≤ x ∧ x ≤ 1000) ∧ (NB long ∧ item.size ≤ 2) ∧ ∀ k ∈ kids, WF k) := by rw [WF]
open Classical in
noncomputable def stepT : LT → Option LT
 | .mk kind item long many kids shares =>
  if kind = 1 then none
  else if kind = 5 then if many = 1 then some (kids.getD 0 default) else if (kids.getD 0 default).kd = 5 ∧ many * (kids.getD 0 default).mn ≤ 100 then some (repK (many * (kids.getD 0 default).mn) (kids.getD 0 default).ks) else none
  else if kids.length = 1 then some (kids.getD 0 default)
  else if kind = 2 then if gath (flatT kids) = kids then none else some (rowT (gath (flatT kids)))
  else if kind = 4 then if 1 < gcdI shares then some (.mk 4 item long many kids (divI (gcdI shares) shares)) else none
  else if plainT (kids.getD 0 default) = true ∧ ∀ k ∈ kids, k = kids.getD 0 default then some (kids.getD 0 default) else none
def HS : LT → Prop
 | .mk kind item long many kids shares => stepT (.mk kind item long many kids shares) = none ∧ ∀ k ∈ kids, HS k
theorem HS_eq (kind : Int) (item : ByteArray) (long many : Int) (kids : List LT) (shares : List Int) : HS (.mk kind item long many kids shares) = (stepT (.mk kind item long many kids shares) = none ∧ ∀ k ∈ kids, HS k) := by rw [HS]
theorem HS.st {t : LT} (h : HS t) : stepT t = none := by cases t; rw [HS_eq] at h; exact h.1
theorem HS.kids {t : LT} (h : HS t) : ∀ k ∈ t.ks, HS k := by cases t; rw [HS_eq] at h; exact h.2
theorem WF.kids {t : LT} (h : WF t) : ∀ k ∈ t.ks, WF k := by cases t; rw [WF_eq] at h; exact h.2.2.2.2.2.2.2.2.2
theorem WF.ne {t : LT} (h : WF t) (hk : t.kd ≠ 1) : t.ks ≠ [] := by
 cases t; rw [WF_eq] at h; exact (h.2.2.1 hk).2.2
set_option maxHeartbeats 8000000
def KC : Nat → LT → Prop
 | 0, _ => False
 | d + 1, .mk kind item long many kids shares => NB kind ∧ item.size ≤ 2 ∧ NB long ∧ NB many ∧ kids.length ≤ 1000 ∧ shares.length ≤ 1000 ∧ (∀ x ∈ shares, NB x) ∧ ∀ k ∈ kids, KC d k
theorem KC.mono : ∀ {d e : Nat} {t : LT}, KC d t → d ≤ e → KC e t
 | 0, _, _, h, _ => h.elim
 | d + 1, 0, _, _, h => by omega
 | d + 1, e + 1, .mk .., h, hd => ⟨h.1, h.2.1, h.2.2.1, h.2.2.2.1, h.2.2.2.2.1, h.2.2.2.2.2.1, h.2.2.2.2.2.2.1, fun k hk => (h.2.2.2.2.2.2.2 k hk).mono (by omega)⟩
theorem LC.kc : ∀ {d : Nat} {t : LT}, LC d t → KC d t
 | 0, _, h => h.elim
 | d + 1, .mk .., h => ⟨h.1, h.2.1, h.2.2.1, h.2.2.2.1, by have := h.2.2.2.2.1; omega, by have := h.2.2.2.2.2.1; omega, h.2.2.2.2.2.2.1, fun k hk => (h.2.2.2.2.2.2.2 k hk).kc⟩
theorem getD_mem' {α : Type} (l : List α) (j : Nat) (d : α) (h : j < l.length) : l.getD j d ∈ l := by
 rw [List.getD_eq_getElem?_getD, List.getElem?_eq_getElem h]; exact List.getElem_mem _
theorem bytes_beq {a b : ByteArray} : (a == b) = true ↔ a = b := by
 first
 | exact beq_iff_eq
 | (cases a with
   | mk x =>
    cases b with
    | mk y =>
     rw [ByteArray.mk.injEq]
     exact @beq_iff_eq _ _ _ x y)
open Nat renaming reduceAdd → nA, reduceSub → nB, reduceMul → nC, reduceLT → nD, reduceLeDiff → nE, reduceEqDiff → nF, reduceMod → nG, reduceDiv → nH, reducePow → nI
theorem Weak.trans {a b c : AV} (h : Weak a b) (k : Weak b c) : Weak a c := fun G v hr => k G v (h G v hr)
def XW (xs : List (List AV)) (ts : List LT) : Prop := xs.length = ts.length ∧ ∀ i, i < ts.length → WL (xs.getD i []) (encL (ts.getD i default))
theorem XW.nil : XW [] [] := ⟨rfl, fun i h => by simp at h⟩
theorem XW.app {xs ys : List (List AV)} {ts us : List LT} (h : XW xs ts) (k : XW ys us) : XW (xs ++ ys) (ts ++ us) := by
 refine ⟨by simp [h.1, k.1], fun i hi => ?_⟩
 simp only [List.getD_eq_getElem?_getD]
 by_cases hlt : i < ts.length
 ·rw [List.getElem?_append_left (by rw [h.1]; exact hlt), List.getElem?_append_left hlt]
  have := h.2 i hlt
  simpa only [List.getD_eq_getElem?_getD] using this
 ·rw [List.getElem?_append_right (by rw [h.1]; omega), List.getElem?_append_right (by omega), h.1]
  have := k.2 (i - ts.length) (by simp at hi; omega)
  simpa only [List.getD_eq_getElem?_getD] using this
theorem XW.one {c : List AV} {t : LT} (h : WL c (encL t)) : XW [c] [t] := ⟨rfl, fun i hi => by
 obtain rfl : i = 0 := by simpa using hi
 exact h⟩
theorem XW.map (ts : List LT) : XW (ts.map encL) ts := ⟨by simp, fun i hi => by rw [getD_enc encL ts i default hi]; exact WL.refl _⟩
section
variable {P : Program} {c : Cx} {Q : Exit → St → Prop} {s : St}
theorem awp_nilRow (t z : Nat) {k : Option Nat} {x : Code} (ht : s.sl.getD t .junk = .row z [] k) (h1 : Awp P c x Q { s with sl := s.sl.set t (.v (.slice none 0 0)) })
  (h2 : ∀ g o n, Awp P c x Q { s with sl := s.sl.set t (.v (.slice (some ⟨g, o, none⟩) 0 (n + 1))) }) (h3 : ∀ a, Awp P c x Q { s with sl := s.sl.set t (.v (.slice (some a) 0 0)) }) : Awp P c x Q s := by
 rintro ac w ⟨G, L, sm, hg, hf, hL⟩
 have put : ∀ v, ac.tmps.getD t undef = v → v.oneCell' = true → Awp P c x Q { s with sl := s.sl.set t (.v v) } → x.wp P (fun e a' w' => ∃ s', Q e s' ∧ In c s' a' w') ac w := fun v hv h1 h => by
  refine h ac w ⟨G, L, ⟨sm.hs, by simpa using sm.sz, fun u hu => ?_, sm.df, sm.ls⟩, hg, hf, hL⟩
  have hu' : u < s.sl.length := by simpa using hu
  simp only [List.getElem_set]
  split
  ·rename_i e
   subst e
   rw [hv]
   exact RepT.of (.v _ h1)
  ·exact sm.sl u hu'
 by_cases hlt : t < s.sl.length
 ·have h9 := sm.sl t hlt
  rw [List.getD_eq_getElem?_getD, List.getElem?_eq_getElem hlt, Option.getD_some] at ht
  rw [ht] at h9
  generalize hv : ac.tmps.getD t undef = v at h9
  have h9' : Rep G (.row z [] k) v := h9
  cases h9' with
  | row _ _ _ g o n cc u hn =>
   simp only [List.length_nil] at hn
   subst hn
   cases cc with
   | zero => exact put _ hv rfl (h3 _)
   | succ cc => exact put _ hv rfl (h2 g o cc)
  | nil => exact put _ hv rfl h1
  | nilA _ a =>
   cases a with
   | none => exact put _ hv rfl h1
   | some a => exact put _ hv rfl (h3 a)
 ·rw [List.getD_eq_getElem?_getD, List.getElem?_eq_none (by omega)] at ht
  cases ht
end
open Go
set_option linter.unusedVariables false
set_option linter.unusedSimpArgs false
theorem weak2 {a a' b b' : AV} (h : Weak a a') (k : Weak b b') : ∀ j, (hj : j < ([a, b] : List AV).length) → (hk : j < ([a', b'] : List AV).length) → Weak ([a, b][j]) ([a', b'][j])
 | 0, _, _ => h
 | 1, _, _ => k
 | j + 2, hj, _ => absurd hj (by simp)
open Nat renaming reduceAdd → nA, reduceSub → nB, reduceMul → nC, reduceLT → nD, reduceLeDiff → nE, reduceEqDiff → nF, reduceMod → nG, reduceDiv → nH, reducePow → nI
set_option maxRecDepth 100000
set_option maxHeartbeats 8000000
theorem g_grow1 (x : List AV) (xs : List (List AV)) (k : Option Nat) (h : Hp) (hb : xs.length ≤ 1000) : ACalls Tryz.prog 46 [.row 1 (x :: xs) k] h (fun r h' => ∃ q, h.T q = none ∧ r = .row 1 (x :: xs) (some q) ∧ h' = { h with T := upd h.T q (some (.tail (xs.length + 1))) }) := by
 refine gE Tryz.func46 rfl (by kernel_rfl) 7 rfl fun c => ?_
 (repeat (first | refine gO rfl ?_ | (refine gM zM40 fun K1 hK1 => ?_; simp only [go_sem, ↓reduceIte, reduceCtorEq, nA, nB, nC, nD, nE, nF] <;> and_intros <;> (apply hK1; clear hK1 K1))))
 refine awp_cond (t := _) rfl (fun h1 => by cases h1) (fun _ => ?_)
 (repeat (first | refine gO rfl ?_ | (refine gM zM40 fun K1 hK1 => ?_; simp only [go_sem, ↓reduceIte, reduceCtorEq, nA, nB, nC, nD, nE, nF] <;> and_intros <;> first | (intros; (decide)) | skip)))
 intro q hq
 and_intros <;> first | (refine hK1 _ ?_; clear hK1 K1) | exact .inl trivial | exact .inr rfl | exact .inr True.intro | exact True.intro | omega
 (repeat ((refine gO rfl ?_)))
 simp only [Tryz.results46, go_sem, ↓reduceIte, reduceCtorEq, nA, nB, nC, nD, nE, nF]
 exact ⟨_, _, Weak.refl _, Hp.le.refl _, q, hq, rfl, rfl⟩
theorem g_grow0 (k : Option Nat) (h : Hp) : ACalls Tryz.prog 46 [.row 1 [] k] h (fun r h' => ∃ q, h.T q = none ∧ r = .row 1 [] (some q) ∧ h' = { h with T := upd h.T q (some (.tail 0)) }) := by
 refine gE Tryz.func46 rfl (by kernel_rfl) 7 rfl fun c => ?_
 refine awp_nilRow 0 1 rfl ?_ (fun g o n => ?_) (fun a => ?_)
 ·(repeat (first | refine gO rfl ?_ | (refine gM zM40 fun K1 hK1 => ?_; simp only [go_sem, ↓reduceIte, reduceCtorEq, nA, nB, nC, nD, nE, nF] <;> and_intros <;> (apply hK1; clear hK1 K1))))
  refine awp_cond (t := _) rfl (fun _ => ?_) (fun h1 => by cases h1)
  first | refine gO rfl ?_ | (refine gM zM40 fun K1 hK1 => ?_; simp only [go_sem, ↓reduceIte, reduceCtorEq, nA, nB, nC, nD, nE, nF] <;> and_intros <;> first | (apply hK1; clear hK1 K1) | (intros; first | omega | decide | (simp_all <;> omega)) | skip)
  first | refine gO rfl ?_ | (refine gM zM40 fun K1 hK1 => ?_; simp only [go_sem, ↓reduceIte, reduceCtorEq, nA, nB, nC, nD, nE, nF] <;> and_intros <;> first | (apply hK1; clear hK1 K1) | (intros; first | omega | decide | (simp_all <;> omega)) | skip)
  refine awp_own 2 1 rfl ⟨rfl, rfl⟩ (fun q hq => ?_)
  (repeat ((refine gO rfl ?_)))
  simp only [Tryz.results46, go_sem, ↓reduceIte, reduceCtorEq, nA, nB, nC, nD, nE, nF]
  exact ⟨_, _, Weak.refl _, Hp.le.refl _, q, hq, rfl, rfl⟩
 ·(repeat (first | refine gO rfl ?_ | (refine gM zM40 fun K1 hK1 => ?_; simp only [go_sem, ↓reduceIte, reduceCtorEq, nA, nB, nC, nD, nE, nF] <;> and_intros <;> (apply hK1; clear hK1 K1))))
  refine awp_cond (t := _) rfl (fun h1 => by cases h1) (fun _ => ?_)
  (repeat (first | refine gO rfl ?_ | (refine gM zM40 fun K1 hK1 => ?_; simp only [go_sem, ↓reduceIte, reduceCtorEq, nA, nB, nC, nD, nE, nF] <;> and_intros <;> first | (intros; (decide)) | skip)))
  intro q hq
  and_intros <;> first | (refine hK1 _ ?_; clear hK1 K1) | exact .inl trivial | exact .inr rfl | exact .inr True.intro | exact True.intro | omega
  (repeat ((refine gO rfl ?_)))
  simp only [Tryz.results46, go_sem, ↓reduceIte, reduceCtorEq, nA, nB, nC, nD, nE, nF]
  exact ⟨_, _, Weak.refl _, Hp.le.refl _, q, hq, rfl, rfl⟩
 ·(repeat (first | refine gO rfl ?_ | (refine gM zM40 fun K1 hK1 => ?_; simp only [go_sem, ↓reduceIte, reduceCtorEq, nA, nB, nC, nD, nE, nF] <;> and_intros <;> (apply hK1; clear hK1 K1))))
  refine awp_cond (t := _) rfl (fun h1 => by cases h1) (fun _ => ?_)
  (repeat (first | refine gO rfl ?_ | (refine gM zM40 fun K1 hK1 => ?_; simp only [go_sem, ↓reduceIte, reduceCtorEq, nA, nB, nC, nD, nE, nF] <;> and_intros <;> first | (intros; (decide)) | skip)))
  intro q hq
  and_intros <;> first | (refine hK1 _ ?_; clear hK1 K1) | exact .inl trivial | exact .inr rfl | exact .inr True.intro | exact True.intro | omega
  (repeat ((refine gO rfl ?_)))
  simp only [Tryz.results46, go_sem, ↓reduceIte, reduceCtorEq, nA, nB, nC, nD, nE, nF]
  exact ⟨_, _, Weak.refl _, Hp.le.refl _, q, hq, rfl, rfl⟩
theorem g_ixInt (z : Int) (l : List Int) (h : Hp) (hl : l.length ≤ 100000) (hb : ∀ x ∈ l, -1000000000000000 ≤ x ∧ x ≤ 1000000000000000) : ACalls Tryz.prog 95 [.row 1 (l.map encI) none, .v (.int .i64 z)] h (fun r h' => (∃ j : Int, r = .v (.int .i64 j) ∧ decide (0 ≤ j) = decide (z ∈ l)) ∧ h' = h) := by
 have hml : (l.map encI).length = l.length := List.length_map _
 refine gE Tryz.func95 rfl (by kernel_rfl) 17 rfl fun c => ?_
 (repeat (first | refine gO rfl ?_ | (refine gR fun K1 hK1 => ?_; simp only [go_sem, ↓reduceIte, reduceCtorEq, nA, nB, nC, nD, nE, nF, hml] <;> and_intros <;> (apply hK1; clear hK1 K1))))
 refine awp_loopC (rl false [0, 2, 5, 2, 10]) 0 (fun g s' => ∃ j : Nat, g + j = l.length ∧ z ∉ l.take j ∧
  s' = ⟨((.row 1 (l.map encI) none) :: (.v (.int .i64 z)) :: (jnk 5 ((.v (.int .i64 l.length)) :: (.v (.int .i64 j)) :: (jnk 10 [])))), [], h⟩) l.length ⟨0, by omega, by simp, rfl⟩ ?_
 rintro g _ ⟨j, hj, hno, rfl⟩
 (repeat (first | refine gO rfl ?_ | (refine gR fun K1 hK1 => ?_; simp only [go_sem, ↓reduceIte, reduceCtorEq, nA, nB, nC, nD, nE, nF] <;> and_intros <;> (apply hK1; clear hK1 K1))))
 refine awp_cond (t := _) rfl (fun h1 => ?_) (fun h1 => ?_)
 ·simp only [decide_eq_true_eq] at h1
  have hjl : j < l.length := by omega
  have gx : (l.map encI).getD j [] = encI (l.getD j default) := getD_enc encI l j default hjl
  have htk : l.take (j + 1) = l.take j ++ [l.getD j default] := by rw [List.take_succ_eq_append_getElem hjl, List.getD_eq_getElem?_getD, List.getElem?_eq_getElem hjl]; rfl
  have hmem : l.getD j default ∈ l := getD_mem' l j default hjl
  generalize l.getD j default = y at *
  have gx2 : (l.map encI).getD j [] = [.v (.int .i64 y)] := gx
  (repeat (first | refine gO rfl ?_ | (refine gR fun K1 hK1 => ?_; simp only [go_sem, ↓reduceIte, reduceCtorEq, nA, nB, nC, nD, nE, nF, hml, Int.toNat_natCast, gx2] <;> and_intros <;> first | (apply hK1; clear hK1 K1) | (intros; (omega)))))
  refine awp_cond (t := _) rfl (fun h9 => ?_) (fun h9 => ?_)
  ·have e : z = y := by simpa using h9
   subst e
   (repeat (first | refine gO rfl ?_ | (refine gR fun K1 hK1 => ?_; simp only [go_sem, ↓reduceIte, reduceCtorEq, nA, nB, nC, nD, nE, nF] <;> and_intros <;> (apply hK1; clear hK1 K1))))
   simp only [Tryz.results95, go_sem, ↓reduceIte, reduceCtorEq, nA, nB, nC, nD, nE, nF]
   exact ⟨_, _, Weak.refl _, Hp.le.refl _, ⟨_, rfl, by simp [hmem]⟩, rfl⟩
  ·have e : z ≠ y := by simpa using h9
   (repeat (first | refine gO rfl ?_ | (refine gR fun K1 hK1 => ?_; simp only [go_sem, ↓reduceIte, reduceCtorEq, nA, nB, nC, nD, nE, nF] <;> and_intros <;> first | (apply hK1; clear hK1 K1) | (intros; (omega)))))
   exact ⟨g - 1, by omega, j + 1, by omega, by rw [htk]; simp [hno, e], rfl⟩
 ·simp only [decide_eq_false_iff_not] at h1
  have hjl : j = l.length := by omega
  subst hjl
  rw [List.take_length] at hno
  (repeat (first | refine gO rfl ?_ | (refine gR fun K1 hK1 => ?_; simp only [go_sem, ↓reduceIte, reduceCtorEq, nA, nB, nC, nD, nE, nF] <;> and_intros <;> (apply hK1; clear hK1 K1))))
  simp only [Tryz.results95, go_sem, ↓reduceIte, reduceCtorEq, nA, nB, nC, nD, nE, nF]
  exact ⟨_, _, Weak.refl _, Hp.le.refl _, ⟨_, rfl, by simp [hno]⟩, rfl⟩
theorem g_hasInt (z : Int) (l : List Int) (k : Option Nat) (h : Hp) (hl : l.length ≤ 100000) (hb : ∀ x ∈ l, -1000000000000000 ≤ x ∧ x ≤ 1000000000000000) : ACalls Tryz.prog 47 [.row 1 (l.map encI) k, .v (.int .i64 z)] h (fun r h' => r = .v (.bool (decide (z ∈ l))) ∧ h' = h) := by
 have h1 := fun h => (g_ixInt z l h hl hb).weakArgs (args' := [.row 1 (l.map encI) k, .v (.int .i64 z)]) rfl (weak2 (Weak.row _ _ _) (Weak.refl _))
 generalize l.map encI = rw0 at *
 refine gE Tryz.func47 rfl (by kernel_rfl) 7 rfl fun c => ?_
 (repeat (first | refine gO rfl ?_ | (refine gR fun K1 hK1 => ?_; simp only [go_sem, ↓reduceIte, reduceCtorEq, nA, nB, nC, nD, nE, nF] <;> and_intros <;> first | (apply hK1; clear hK1 K1) | skip)))
 refine (h1 _).mono ?_
 rintro _ _ ⟨⟨j, rfl, hj⟩, rfl⟩
 refine hK1 _ ?_; clear hK1 K1
 (repeat (first | refine gO rfl ?_ | (refine gR fun K1 hK1 => ?_; simp only [go_sem, ↓reduceIte, reduceCtorEq, nA, nB, nC, nD, nE, nF] <;> and_intros <;> (apply hK1; clear hK1 K1))))
 simp only [Tryz.results47, go_sem, ↓reduceIte, reduceCtorEq, nA, nB, nC, nD, nE, nF]
 exact ⟨_, _, Weak.refl _, Hp.le.refl _, by rw [← hj], rfl⟩
theorem mget_mem {k : ByteArray} {v : AV} : ∀ (es : List (ByteArray × AV)), (es.map Prod.fst).Nodup → (k, v) ∈ es → mget k es = some v
 | [], _, h => by cases h
 | (q, x) :: es, hn, h => by
  simp only [List.map_cons, List.nodup_cons] at hn
  rw [mget]
  rcases List.mem_cons.1 h with e | e
  ·cases e; rw [if_pos rfl]
  ·rw [if_neg (fun e2 => hn.1 (List.mem_map.2 ⟨_, e, e2.symm⟩))]
   exact mget_mem es hn.2 e
theorem mset_new {k : ByteArray} {x : AV} : ∀ (es : List (ByteArray × AV)), k ∉ es.map Prod.fst → mset k x es = es ++ [(k, x)]
 | [], _ => rfl
 | (q, y) :: es, h => by
  simp only [List.map_cons, List.mem_cons, not_or] at h
  rw [mset, if_neg (fun e => h.1 e.symm), mset_new es h.2]; rfl
theorem mset_set {k : ByteArray} {x : AV} : ∀ (es : List (ByteArray × AV)) (j : Nat) (hj : j < es.length), (es.map Prod.fst).Nodup → (es[j]).1 = k → mset k x es = es.set j (k, x)
 | [], _, hj, _, _ => absurd hj (by simp)
 | (q, y) :: es, 0, _, _, he => by
  have he : q = k := he
  rw [mset, if_pos he, he]; rfl
 | (q, y) :: es, j + 1, hj, hn, he => by
  simp only [List.map_cons, List.nodup_cons] at hn
  have hj' : j < es.length := by simpa using hj
  have he' : (es[j]).1 = k := by simpa using he
  rw [mset, if_neg (fun e => hn.1 (List.mem_map.2 ⟨es[j], List.getElem_mem hj', he'.trans e.symm⟩)), mset_set es j hj' hn.2 he']; rfl
def mapE (ks : List ByteArray) (L : Nat → List Int) (T : Nat → Nat) (n : Nat) : List (ByteArray × AV) := (List.range n).map fun a => (ks.getD a .empty, .row 1 ((L a).map encI) (some (T a)))
section
variable {ks : List ByteArray} {L L' : Nat → List Int} {T T' : Nat → Nat} {n a j mb q : Nat} {h : Hp} {z : Int}
theorem mapE_len : (mapE ks L T n).length = n := by simp [mapE]
theorem mapE_fst (hn : n ≤ ks.length) : (mapE ks L T n).map Prod.fst = ks.take n := by
 apply List.ext_getElem
 ·simp [mapE]; omega
 ·intro i h1 h2
  have hi : i < ks.length := by simp [mapE] at h1; omega
  simp [mapE, List.getD_eq_getElem?_getD, List.getElem?_eq_getElem hi]
theorem mapE_nodup (hk : ks.Nodup) (hn : n ≤ ks.length) : ((mapE ks L T n).map Prod.fst).Nodup := by
 rw [mapE_fst hn]; exact hk.sublist (List.take_sublist _ _)
theorem mapE_get (ha : a < n) : (mapE ks L T n)[a]'(by rw [mapE_len]; exact ha) = (ks.getD a .empty, .row 1 ((L a).map encI) (some (T a))) := by simp [mapE]
theorem mapE_mget (hk : ks.Nodup) (hn : n ≤ ks.length) (ha : a < n) : mget (ks.getD a .empty) (mapE ks L T n) = some (.row 1 ((L a).map encI) (some (T a))) :=
 mget_mem _ (mapE_nodup hk hn) (List.mem_map.2 ⟨a, List.mem_range.2 ha, rfl⟩)
theorem mapE_congr (h : ∀ a, a < n → L a = L' a ∧ T a = T' a) : mapE ks L T n = mapE ks L' T' n := by
 unfold mapE
 refine List.map_congr_left fun a ha => ?_
 obtain ⟨h1, h2⟩ := h a (List.mem_range.1 ha)
 rw [h1, h2]
theorem mapE_succ : mapE ks L T (n + 1) = mapE ks L T n ++ [(ks.getD n .empty, .row 1 ((L n).map encI) (some (T n)))] := by
 unfold mapE; rw [List.range_succ, List.map_append]; rfl
structure NM (h : Hp) (mb n : Nat) (ks : List ByteArray) (L : Nat → List Int) (T : Nat → Nat) : Prop where
 hm : h.H mb = some (.map (mapE ks L T n))
 tt : ∀ a, a < n → h.T (T a) = some (.tail (L a).length)
 inj : ∀ a b, a < n → b < n → T a = T b → a = b
theorem NM.put (s : NM h mb j ks L T) (hk : ks.Nodup) (hj : j < ks.length) (hq : h.T q = none) :
  NM ⟨upd h.H mb (some (.map (mset (ks.getD j .empty) (.row 1 ((L j).map encI) (some q)) (mapE ks L T j)))), upd h.T q (some (.tail (L j).length))⟩ mb (j + 1) ks L (fun a => if a = j then q else T a) := by
 have hT : ∀ a, a < j → T a ≠ q := fun a ha e => by have := s.tt a ha; rw [e, hq] at this; cases this
 refine ⟨?_, fun a ha => ?_, fun a b ha hb e => ?_⟩
 ·show upd h.H mb _ mb = _
  rw [upd_same, mset_new _ (by
   rw [mapE_fst (by omega)]
   intro hm
   obtain ⟨i, hi, he⟩ := List.getElem_of_mem hm
   rw [List.getElem_take] at he
   rw [List.length_take] at hi
   rw [List.getD_eq_getElem?_getD, List.getElem?_eq_getElem hj] at he
   have hij : i < j := by omega
   exact (List.pairwise_iff_getElem.1 hk i j (by omega) hj hij) he), mapE_succ]
  congr 3
  ·exact mapE_congr fun a ha => ⟨rfl, (if_neg (by omega)).symm⟩
  ·simp
 ·by_cases e : a = j
  ·subst e
   show upd h.T q _ (if a = a then q else T a) = _
   rw [if_pos rfl, upd_same]
  ·show upd h.T q _ (if a = j then q else T a) = _
   rw [if_neg e, upd_other _ _ (hT a (by omega))]
   exact s.tt a (by omega)
 ·replace e : (if a = j then q else T a) = (if b = j then q else T b) := e
  by_cases e1 : a = j
  ·by_cases e2 : b = j
   ·omega
   ·rw [if_pos e1, if_neg e2] at e; exact absurd e.symm (hT b (by omega))
  ·by_cases e2 : b = j
   ·rw [if_neg e1, if_pos e2] at e; exact absurd e (hT a (by omega))
   ·rw [if_neg e1, if_neg e2] at e; exact s.inj a b (by omega) (by omega) e
theorem NM.grow (s : NM h mb n ks L T) (hk : ks.Nodup) (hn : n ≤ ks.length) (ha : a < n) :
  NM ⟨upd h.H mb (some (.map (mset (ks.getD a .empty) (.row 1 ((L a ++ [z]).map encI) (some (T a))) (mapE ks L T n)))), upd h.T (T a) (some (.tail ((L a).length + 1)))⟩ mb n ks (fun b => if b = a then L a ++ [z] else L b) T := by
 refine ⟨?_, fun b hb => ?_, s.inj⟩
 ·show upd h.H mb _ mb = _
  rw [upd_same, mset_set _ a (by rw [mapE_len]; exact ha) (mapE_nodup hk hn) (by rw [mapE_get ha])]
  congr 2
  apply List.ext_getElem
  ·simp [mapE]
  ·intro i h1 h2
   have hi : i < n := by simpa [mapE] using h2
   rw [List.getElem_set]
   by_cases e : a = i
   ·subst e; rw [if_pos rfl, mapE_get hi, if_pos rfl]
   ·rw [if_neg e, mapE_get hi, mapE_get hi, if_neg (fun e2 => e e2.symm)]
 ·show upd h.T (T a) _ (T b) = _
  by_cases e : b = a
  ·subst e; rw [upd_same, if_pos rfl]; simp
  ·rw [upd_other _ _ (fun e2 => e (s.inj b a hb ha e2)), if_neg e]
   exact s.tt b hb
structure N3 (h : Hp) (n : Nat) (T : Nat → Nat) (kg kt kf lg lt lf : Nat) : Prop where
 g : h.T kg = some (.tail lg)
 t : h.T kt = some (.tail lt)
 f : h.T kf = some (.tail lf)
 ne : kg ≠ kt ∧ kg ≠ kf ∧ kt ≠ kf
 nt : ∀ a, a < n → T a ≠ kg ∧ T a ≠ kt ∧ T a ≠ kf
variable {kg kt kf lg lt lf : Nat}
theorem N3.grow (s : N3 h n T kg kt kf lg lt lf) (ha : a < n) {H : Nat → Option AO} {m : Nat} : N3 ⟨H, upd h.T (T a) (some (.tail m))⟩ n T kg kt kf lg lt lf := by
 obtain ⟨n1, n2, n3⟩ := s.nt a ha
 exact ⟨(upd_other _ _ (Ne.symm n1)).trans s.g, (upd_other _ _ (Ne.symm n2)).trans s.t, (upd_other _ _ (Ne.symm n3)).trans s.f, s.ne, s.nt⟩
theorem N3.three (s : N3 h n T kg kt kf lg lt lf) (m : NM h mb n ks L T) : N3 ⟨h.H, upd (upd (upd h.T kg (some (.tail (lg + 1)))) kt (some (.tail (lt + 1)))) kf (some (.tail (lf + 1)))⟩ n T kg kt kf (lg + 1) (lt + 1) (lf + 1) ∧
  NM ⟨h.H, upd (upd (upd h.T kg (some (.tail (lg + 1)))) kt (some (.tail (lt + 1)))) kf (some (.tail (lf + 1)))⟩ mb n ks L T := by
 obtain ⟨a1, a2, a3⟩ := s.ne
 refine ⟨⟨?_, ?_, upd_same _ _ _, s.ne, s.nt⟩, m.hm, fun a ha => ?_, m.inj⟩
 ·show upd _ _ _ kg = _; rw [upd_other _ _ a2, upd_other _ _ a1, upd_same]
 ·show upd _ _ _ kt = _; rw [upd_other _ _ a3, upd_same]
 ·obtain ⟨n1, n2, n3⟩ := s.nt a ha
  show upd _ _ _ (T a) = _
  rw [upd_other _ _ n3, upd_other _ _ n2, upd_other _ _ n1]; exact m.tt a ha
theorem N3.new (m : NM h mb n ks L T) (h1 : h.T kg = none) (h2 : upd h.T kg (some (TO.tail 0)) kt = none) (h3 : upd (upd h.T kg (some (TO.tail 0))) kt (some (.tail 0)) kf = none) :
  N3 ⟨h.H, upd (upd (upd h.T kg (some (.tail 0))) kt (some (.tail 0))) kf (some (.tail 0))⟩ n T kg kt kf 0 0 0 ∧ NM ⟨h.H, upd (upd (upd h.T kg (some (.tail 0))) kt (some (.tail 0))) kf (some (.tail 0))⟩ mb n ks L T := by
 have a1 : kg ≠ kt := fun e => by subst e; rw [upd_same] at h2; cases h2
 have a3 : kt ≠ kf := fun e => by subst e; rw [upd_same] at h3; cases h3
 have h2' : h.T kt = none := by rw [← h2]; exact (upd_other _ _ (Ne.symm a1)).symm
 rw [upd_other _ _ (Ne.symm a3)] at h3
 have a2 : kg ≠ kf := fun e => by subst e; rw [upd_same] at h3; cases h3
 have h3' : h.T kf = none := by rw [← h3]; exact (upd_other _ _ (Ne.symm a2)).symm
 have nt : ∀ a, a < n → T a ≠ kg ∧ T a ≠ kt ∧ T a ≠ kf := fun a ha => by
  have := m.tt a ha
  refine ⟨fun e => ?_, fun e => ?_, fun e => ?_⟩ <;> rw [e] at this <;> simp_all
 refine ⟨⟨?_, ?_, upd_same _ _ _, ⟨a1, a2, a3⟩, nt⟩, m.hm, fun a ha => ?_, m.inj⟩
 ·show upd _ _ _ kg = _; rw [upd_other _ _ a2, upd_other _ _ a1, upd_same]
 ·show upd _ _ _ kt = _; rw [upd_other _ _ a3, upd_same]
 ·obtain ⟨n1, n2, n3⟩ := nt a ha
  show upd _ _ _ (T a) = _
  rw [upd_other _ _ n3, upd_other _ _ n2, upd_other _ _ n1]; exact m.tt a ha
end
open Go
set_option linter.unusedVariables false
set_option linter.unusedSimpArgs false
open Nat renaming reduceAdd → nA, reduceSub → nB, reduceMul → nC, reduceLT → nD, reduceLeDiff → nE, reduceEqDiff → nF, reduceMod → nG, reduceDiv → nH, reducePow → nI
set_option maxRecDepth 100000
set_option maxHeartbeats 8000000
theorem has_no {l : List ByteArray} {x : ByteArray} (h : ∀ y ∈ l, y ≠ x) : (l.any fun y => x == y) = false := by
 rw [List.any_eq_false]
 intro y hy
 rw [ba_beq, decide_eq_true_eq]
 exact fun e => h y hy e.symm
theorem g_indexS (ns : List ByteArray) (x : ByteArray) (h : Hp) (hl : ns.length ≤ 100000) : ACalls Tryz.prog 81 [.row 1 (ns.map encS) none, .v (.string x)] h (fun r h' => ∃ i : Int, r = .v (.int .i64 i) ∧ h' = h ∧ decide (0 ≤ i) = (ns.any fun y => x == y)) := by
 have hml : (ns.map encS).length = ns.length := List.length_map _
 refine gE Tryz.func81 rfl (by kernel_rfl) 17 rfl fun c => ?_
 (repeat (first | refine gO rfl ?_ | (refine gR fun K1 hK1 => ?_; simp only [go_sem, ↓reduceIte, reduceCtorEq, nA, nB, nC, nD, nE, nF, hml] <;> and_intros <;> first | (apply hK1; clear hK1 K1) | (intros; first | omega | decide | (simp_all <;> omega)) | skip)))
 refine awp_loopC (rl false [0, 2, 5, 2, 10]) 0 (fun g s => ∃ j : Nat, g + j = ns.length ∧ ((ns.drop j).any fun y => x == y) = (ns.any fun y => x == y) ∧
  s = ⟨((.row 1 (ns.map encS) none) :: (.v (.string x)) :: (jnk 5 ((.v (.int .i64 ns.length)) :: (.v (.int .i64 j)) :: (jnk 10 [])))), [], h⟩) ns.length ⟨0, by omega, rfl, rfl⟩ ?_
 rintro g _ ⟨j, hj, hd, rfl⟩
 (repeat (first | refine gO rfl ?_ | (refine gR fun K1 hK1 => ?_; simp only [go_sem, ↓reduceIte, reduceCtorEq, nA, nB, nC, nD, nE, nF] <;> and_intros <;> first | (apply hK1; clear hK1 K1) | (intros; first | omega | decide) | skip)))
 refine awp_cond (t := _) rfl (fun h1 => ?_) (fun h1 => ?_)
 ·simp only [decide_eq_true_eq] at h1
  have hjl : j < ns.length := by omega
  have gx : (ns.map encS).getD j [] = encS (ns.getD j default) := getD_enc encS ns j default hjl
  have hdc := drop_at' ns j default hjl
  rw [hdc, List.any_cons] at hd
  generalize ns.getD j default = y at *
  (repeat (first | refine gO rfl ?_ | (refine gR fun K1 hK1 => ?_; simp only [go_sem, ↓reduceIte, reduceCtorEq, nA, nB, nC, nD, nE, nF, hml, Int.toNat_natCast, gx, encS] <;> and_intros <;> first | (apply hK1; clear hK1 K1) | (intros; first | omega | decide) | skip)))
  refine awp_cond (t := _) rfl (fun h2 => ?_) (fun h2 => ?_)
  ·(repeat (first | refine gO rfl ?_ | (refine gR fun K1 hK1 => ?_; simp only [go_sem, ↓reduceIte, reduceCtorEq, nA, nB, nC, nD, nE, nF] <;> and_intros <;> first | (apply hK1; clear hK1 K1) | (intros; first | omega | decide) | skip)))
   simp only [Tryz.results81, go_sem, ↓reduceIte, reduceCtorEq, nA, nB, nC, nD, nE, nF]
   refine ⟨_, _, Weak.refl _, Hp.le.refl _, j, rfl, rfl, ?_⟩
   rw [← hd, h2]; simp
  ·(repeat (first | refine gO rfl ?_ | (refine gR fun K1 hK1 => ?_; simp only [go_sem, ↓reduceIte, reduceCtorEq, nA, nB, nC, nD, nE, nF] <;> and_intros <;> first | (apply hK1; clear hK1 K1) | (intros; first | omega | decide) | skip)))
   refine ⟨g - 1, by omega, j + 1, by omega, ?_, rfl⟩
   rw [← hd, h2, Bool.false_or]
 ·simp only [decide_eq_false_iff_not] at h1
  have hjl : j = ns.length := by omega
  subst hjl
  rw [List.drop_length] at hd
  (repeat (first | refine gO rfl ?_ | (refine gR fun K1 hK1 => ?_; simp only [go_sem, ↓reduceIte, reduceCtorEq, nA, nB, nC, nD, nE, nF] <;> and_intros <;> first | (apply hK1; clear hK1 K1) | (intros; first | omega | decide) | skip)))
  simp only [Tryz.results81, go_sem, ↓reduceIte, reduceCtorEq, nA, nB, nC, nD, nE, nF]
  exact ⟨_, _, Weak.refl _, Hp.le.refl _, -1, rfl, rfl, by rw [← hd]; rfl⟩
theorem g_hasS (ns : List ByteArray) (x : ByteArray) (k : Option Nat) (h : Hp) (hl : ns.length ≤ 100000) : ACalls Tryz.prog 36 [.row 1 (ns.map encS) k, .v (.string x)] h (fun r h' => r = .v (.bool (ns.any fun y => x == y)) ∧ h' = h) := by
 have h1 := fun h => (g_indexS ns x h hl).weakArgs (args' := [.row 1 (ns.map encS) k, .v (.string x)]) rfl (weak2 (Weak.row _ _ _) (Weak.refl _))
 generalize ns.map encS = rw0 at *
 refine gE Tryz.func36 rfl (by kernel_rfl) 7 rfl fun c => ?_
 (repeat (first | refine gO rfl ?_ | (refine gR fun K1 hK1 => ?_; simp only [go_sem, ↓reduceIte, reduceCtorEq, nA, nB, nC, nD, nE, nF] <;> and_intros <;> first | (apply hK1; clear hK1 K1) | (intros; first | omega | decide | (simp_all <;> omega)) | skip)))
 refine (h1 _).mono ?_
 rintro _ _ ⟨i, rfl, rfl, hi⟩
 refine hK1 _ ?_; clear hK1 K1
 rw [← hi]
 (repeat (first | refine gO rfl ?_ | (refine gR fun K1 hK1 => ?_; simp only [go_sem, ↓reduceIte, reduceCtorEq, nA, nB, nC, nD, nE, nF] <;> and_intros <;> first | (apply hK1; clear hK1 K1) | (intros; first | omega | decide | (simp_all <;> omega)) | skip)))
 simp only [Tryz.results36, go_sem, ↓reduceIte, reduceCtorEq, nA, nB, nC, nD, nE, nF]
 exact ⟨_, _, Weak.refl _, Hp.le.refl _, rfl, rfl⟩
abbrev zP15E : List Nat := [0, 1, 2, 3, 4]
abbrev zP15P : List (Nat × List Nat × List Nat) := [(5, [2], []), (6, [], [])]
abbrev zP16E : List Nat := [0, 1, 2, 3, 4, 5, 6, 7, 8, 9]
abbrev zP16P : List (Nat × List Nat × List Nat) := [(10, [2], []), (11, [], [])]
abbrev zP17E : List Nat := [0, 1, 2, 3, 5, 6, 7, 8, 10, 11, 12]
abbrev zP17P : List (Nat × List Nat × List Nat) := [(4, [7, 11], []), (9, [11], []), (13, [], []), (14, [], []), (15, [], []), (16, [], [])]
abbrev zP18E : List Nat := [0, 1, 2, 3, 4, 5, 6, 7, 8, 9]
abbrev zP18P : List (Nat × List Nat × List Nat) := [(10, [2], []), (11, [], [])]
attribute [go_sem] zP15E zP15P zP16E zP16P zP17E zP17P zP18E zP18P
def whF (HE : Nat → Nat → Bool) (q : Nat) : Bool := (List.range q).all fun a => (List.range 8).all fun p => HE a p
def dropSeq : Nat → Code → Code
 | 0, c => c
 | k + 1, .seq _ b => dropSeq k b
 | _ + 1, c => c
def encPe (p : ByteArray × List Int) : List AV := [.v (.string p.1), .row 1 (p.2.map encI) none]
def encG4 (ks : List ByteArray) (x : Nat × Nat × Nat × Nat) : List AV := [.v (.int .i64 x.1), .v (.string (ks.getD x.2.2.1 .empty)), .v (.string (ks.getD x.2.1 .empty)), .v (.int .i64 x.2.2.2)]
def frS (ks : List ByteArray) (l : List Gift) (i : Nat) : List ByteArray := (l.take i).map fun g => ks.getD g.2.1 .empty
def toS (ks : List ByteArray) (l : List Gift) (i : Nat) : List ByteArray := (l.take i).map fun g => ks.getD g.1 .empty
def frG (ks : List ByteArray) (no : Nat) (l : List Gift) (i : Nat) : List (List AV) := (l.take i).map fun g => encG4 ks (no, g)
section
variable {ks : List ByteArray} {l : List Gift} {i no : Nat}
theorem frS_succ (h : i < l.length) : frS ks l (i + 1) = frS ks l i ++ [ks.getD l[i].2.1 .empty] := by unfold frS; rw [List.take_succ_eq_append_getElem h, List.map_append]; rfl
theorem toS_succ (h : i < l.length) : toS ks l (i + 1) = toS ks l i ++ [ks.getD l[i].1 .empty] := by unfold toS; rw [List.take_succ_eq_append_getElem h, List.map_append]; rfl
theorem frG_succ (h : i < l.length) : frG ks no l (i + 1) = frG ks no l i ++ [encG4 ks (no, l[i])] := by unfold frG; rw [List.take_succ_eq_append_getElem h, List.map_append]; rfl
theorem frS_len (h : i ≤ l.length) : (frS ks l i).length = i := by unfold frS; rw [List.length_map, List.length_take]; omega
theorem toS_len (h : i ≤ l.length) : (toS ks l i).length = i := by unfold toS; rw [List.length_map, List.length_take]; omega
theorem frG_len (h : i ≤ l.length) : (frG ks no l i).length = i := by unfold frG; rw [List.length_map, List.length_take]; omega
theorem frG_get {k : Nat} (hk : k < i) (h : i ≤ l.length) : (frG ks no l i).getD k [] = encG4 ks (no, l[k]'(by omega)) := by
 unfold frG
 rw [List.getD_eq_getElem?_getD, List.getElem?_map, List.getElem?_take, if_pos hk, List.getElem?_eq_getElem (by omega)]; rfl
theorem key_ne (hk : ks.Nodup) {a b : Nat} (ha : a < ks.length) (hb : b < ks.length) (h : a ≠ b) : (ks.getD a .empty == ks.getD b .empty) = false := by
 rw [ba_beq, decide_eq_false_iff_not, List.getD_eq_getElem?_getD, List.getD_eq_getElem?_getD, List.getElem?_eq_getElem ha, List.getElem?_eq_getElem hb]
 intro e
 rcases Nat.lt_or_gt_of_ne h with h1 | h1
 ·exact List.pairwise_iff_getElem.1 hk a b ha hb h1 e
 ·exact List.pairwise_iff_getElem.1 hk b a hb ha h1 e.symm
end
theorem NM.give {h : Hp} {mb n q : Nat} {ks : List ByteArray} {L : Nat → List Int} {T : Nat → Nat} {l : List Gift} (s : NM h mb n ks (addsL L (l.take q)) T) (hk : ks.Nodup) (hn : n ≤ ks.length) (hq : q < l.length) {ga gb gp : Nat} (hg : l[q] = (ga, gb, gp)) (ha : ga < n) :
  NM ⟨upd h.H mb (some (.map (mset (ks.getD ga .empty) (.row 1 (((addsL L (l.take q)) ga).map encI ++ [[.v (.int .i64 gp)]]) (some (T ga))) (mapE ks (addsL L (l.take q)) T n)))), upd h.T (T ga) (some (.tail (((addsL L (l.take q)) ga).length + 1)))⟩ mb n ks (addsL L (l.take (q + 1))) T := by
 have := s.grow (z := (gp : Int)) hk hn ha
 rw [List.map_append] at this
 have e : (fun b => if b = ga then addsL L (l.take q) ga ++ [(gp : Int)] else addsL L (l.take q) b) = addsL L (l.take (q + 1)) := by
  rw [addsL_take L l hq, hg]
  funext b
  unfold addL
  by_cases e : b = ga
  ·subst e; simp
  ·simp [e]
 rw [e] at this
 exact this
theorem g_growI (xs : List Int) (k : Option Nat) (h : Hp) (hb : xs.length ≤ 1000) : ACalls Tryz.prog 46 [.row 1 (xs.map encI) k] h (fun r h' => ∃ q, h.T q = none ∧ r = .row 1 (xs.map encI) (some q) ∧ h' = { h with T := upd h.T q (some (.tail xs.length)) }) := by
 cases xs with
 | nil => exact g_grow0 k h
 | cons x l => simpa using g_grow1 (encI x) (l.map encI) k h (by simp at hb ⊢; omega)
theorem nob_tail (c : Cx) (h : Hp) (ps : List (ByteArray × List Int)) (GN : List (Nat × Nat × Nat × Nat)) (all : Bool) (hps : ps.length ≤ 5) (hkn : (ps.map Prod.fst).Nodup) (hpl : ∀ p ∈ ps, p.2.length ≤ 1000 ∧ ∀ z ∈ p.2, -1000000000000000 ≤ z ∧ z ≤ 1000000000000000)
  (N HE H0 : Nat → Nat → Bool) (hst : Stand ps.length 8 N GN HE 0 0 [] 0 H0 (fun a => (ps.getD a (.empty, [])).2)) (hall : all = whF HE ps.length) (hGl : GN.length ≤ 1000000) (hno : ∀ x ∈ GN, x.1 ≤ 1000000)
  (code : Code) (hc : Tryz.f7.body = some code) :
  Awp Tryz.prog c (dropSeq 7 code) (retQ ty Tryz.f7.results.toList (fun r _ => r = .v (.bool true))) ⟨((jnk 4 ((.row 2 (ps.map encPe) none) :: AV.junk :: ((.row 4 (GN.map (encG4 (ps.map Prod.fst))) none) :: (.v (.bool all)) :: (jnk 177 []))))), [], h⟩ := by
 obtain rfl := Option.some.inj (hc.symm.trans (rfl : Tryz.f7.body = some _))
 clear hc
 simp only [dropSeq]
 obtain ⟨ks, hks⟩ : ∃ ks, ks = ps.map Prod.fst := ⟨_, rfl⟩
 rw [← hks] at hkn ⊢
 have hkl : ks.length = ps.length := by rw [hks, List.length_map]
 obtain ⟨L0, hL0⟩ : ∃ L0 : Nat → List Int, L0 = fun a => (ps.getD a (.empty, [])).2 := ⟨_, rfl⟩
 rw [← hL0] at hst
 (repeat (((refine gM zM41 fun K1 hK1 => ?_; simp only [go_sem, ↓reduceIte, reduceCtorEq, nA, nB, nC, nD, nE, nF, List.length_map] <;> and_intros))))
 intro mb hmb
 refine hK1 _ ?_; clear hK1 K1
 (repeat (first | refine gO rfl ?_ | ((refine gM zM41 fun K1 hK1 => ?_; simp only [go_sem, ↓reduceIte, reduceCtorEq, nA, nB, nC, nD, nE, nF, List.length_map] <;> and_intros <;> (apply hK1; clear hK1 K1)))))
 refine awp_loopC (rl false [4, 1, 1, 2, 1, 1, 43, 3, 129]) 0 (fun g s => ∃ (j : Nat) (h' : Hp) (T : Nat → Nat), g + j = ps.length ∧ NM h' mb j ks L0 T ∧
  s = ⟨((jnk 4 ((.row 2 (ps.map encPe) none) :: AV.junk :: ((.row 4 (GN.map (encG4 ks)) none) :: (.v (.bool all)) :: AV.junk :: ((.map mb) :: (jnk 43 ((.row 2 (ps.map encPe) none) :: (.v (.int .i64 ps.length)) :: (.v (.int .i64 j)) :: (jnk 129 [])))))))), [], h'⟩) ps.length ⟨0, _, fun _ => 0, by omega, ⟨upd_same _ _ _, fun a ha => absurd ha (by omega), fun a b ha => absurd ha (by omega)⟩, rfl⟩ ?_
 rintro g _ ⟨j, h1, T, hj, hM, rfl⟩
 (repeat (first | refine gO rfl ?_ | ((refine gM zM41 fun K1 hK1 => ?_; simp only [go_sem, ↓reduceIte, reduceCtorEq, nA, nB, nC, nD, nE, nF] <;> and_intros <;> (apply hK1; clear hK1 K1)))))
 refine awp_cond (t := _) rfl (fun hq => ?_) (fun hq => ?_)
 ·simp only [decide_eq_true_eq] at hq
  have hjp : j < ps.length := by omega
  have hgp : (ps.map encPe).getD j [] = encPe (ps.getD j (.empty, [])) := getD_enc encPe ps j _ hjp
  have hkj : ks.getD j .empty = (ps.getD j (.empty, [])).1 := by rw [hks]; simp [List.getD_eq_getElem?_getD, List.getElem?_eq_getElem hjp]
  have hLj : L0 j = (ps.getD j (.empty, [])).2 := by rw [hL0]
  have hpj := hpl _ (getD_mem' ps j (.empty, []) hjp)
  generalize ps.getD j (.empty, []) = p at *
  obtain ⟨pk, pl⟩ := p
  simp only at hkj hLj hpj
  have hgp2 : (ps.map encPe).getD j [] = [.v (.string pk), .row 1 (pl.map encI) none] := hgp
  (repeat (first | refine gO rfl ?_ | ((first | refine gM zM41 ?_ | ((with_reducible refine xR ?_); refine uE 13 zM41 zP15E zP15P 185 rfl (by kernel_rfl) ?_)) <;> ((try with_reducible intro K1 hK1); simp only [go_sem, ↓reduceIte, reduceCtorEq, nA, nB, nC, nD, nE, nF, Int.toNat_natCast, hgp2] <;> and_intros <;> first | (apply hK1; clear hK1 K1) | (intros; (omega)) | skip))))
  refine (g_growI pl none _ hpj.1).mono ?_
  rintro _ _ ⟨q, hq, rfl, rfl⟩
  refine hK1 _ ?_; clear hK1 K1
  have hm1 := hM.hm
  have hpk := hM.put hkn (by omega) hq
  rw [hkj, hLj] at hpk
  (repeat (first | refine gO rfl ?_ | ((first | refine gM zM41 ?_ | (with_reducible refine wM ?_ ?_)) <;> ((try with_reducible intro K1 hK1); simp only [go_sem, ↓reduceIte, reduceCtorEq, nA, nB, nC, nD, nE, nF, hm1] <;> and_intros <;> first | (apply hK1; clear hK1 K1) | (intros; first | omega | (simp_all <;> omega))))))
  exact ⟨g - 1, by omega, j + 1, _, _, by omega, hpk, rfl⟩
 ·simp only [decide_eq_false_iff_not] at hq
  have hjp : j = ps.length := by omega
  subst hjp
  (repeat (first | refine gO rfl ?_ | ((refine gM zM41 fun K1 hK1 => ?_; simp only [go_sem, ↓reduceIte, reduceCtorEq, nA, nB, nC, nD, nE, nF, List.length_map] <;> and_intros <;> (apply hK1; clear hK1 K1)))))
  refine awp_own 13 1 rfl ⟨rfl, rfl⟩ (fun kg hkg => ?_)
  refine awp_own 14 1 rfl ⟨rfl, rfl⟩ (fun kt hkt => ?_)
  refine awp_own 15 4 rfl ⟨rfl, rfl⟩ (fun kf hkf => ?_)
  obtain ⟨hN3, hM3⟩ := N3.new hM hkg hkt hkf
  obtain ⟨h3, eh3⟩ : ∃ h3 : Hp, h3 = ⟨h1.H, upd (upd (upd h1.T kg (some (.tail 0))) kt (some (.tail 0))) kf (some (.tail 0))⟩ := ⟨_, rfl⟩
  rw [← eh3] at hN3 hM3
  refine awp_cut (rl false [4, 1, 1, 2, 1, 1, 2, 4, 50, 3, 116]) 0 (?_ : Awp _ _ _ _ ⟨((jnk 4 ((.row 2 (ps.map encPe) none) :: AV.junk :: ((.row 4 (GN.map (encG4 ks)) none) :: (.v (.bool all)) :: AV.junk :: ((.map mb) :: AV.junk :: AV.junk :: ((.v (.int .i64 0)) :: (.row 1 [] (some kg)) :: (.row 1 [] (some kt)) :: (.row 4 [] (some kf)) :: (jnk 50 ((.row 4 (GN.map (encG4 ks)) none) :: (.v (.int .i64 GN.length)) :: (.v (.int .i64 0)) :: (jnk 116 []))))))))), [], ⟨h1.H, upd (upd (upd h1.T kg (some (.tail 0))) kt (some (.tail 0))) kf (some (.tail 0))⟩⟩)
  rw [← eh3]
  clear eh3 hkg hkt hkf hM hq
  refine awp_loopC (rl false [4, 1, 1, 2, 1, 1, 2, 4, 50, 3, 116]) 0 (fun g s => ∃ (j no i : Nat) (l : List Gift) (H : Nat → Nat → Bool) (L : Nat → List Int) (T : Nat → Nat) (kg kt kf : Nat) (h' : Hp), g + j = GN.length ∧ Stand ps.length 8 N GN HE j no l i H L ∧ NM h' mb ps.length ks L T ∧ N3 h' ps.length T kg kt kf i i i ∧
   s = ⟨((jnk 4 ((.row 2 (ps.map encPe) none) :: AV.junk :: ((.row 4 (GN.map (encG4 ks)) none) :: (.v (.bool all)) :: AV.junk :: ((.map mb) :: AV.junk :: AV.junk :: ((.v (.int .i64 no)) :: (.row 1 ((frS ks l i).map encS) (some kg)) :: (.row 1 ((toS ks l i).map encS) (some kt)) :: (.row 4 (frG ks no l i) (some kf)) :: (jnk 50 ((.row 4 (GN.map (encG4 ks)) none) :: (.v (.int .i64 GN.length)) :: (.v (.int .i64 j)) :: (jnk 116 []))))))))), [], h'⟩) GN.length ⟨0, 0, 0, [], H0, L0, T, kg, kt, kf, h3, by omega, hst, hM3, hN3, rfl⟩ ?_
  rintro g _ ⟨j, no, i, l, H, L, T, kg, kt, kf, h', hj, S, hM, hN, rfl⟩
  (repeat (first | refine gO rfl ?_ | ((refine gM zM41 fun K1 hK1 => ?_; simp only [go_sem, ↓reduceIte, reduceCtorEq, nA, nB, nC, nD, nE, nF] <;> and_intros <;> (apply hK1; clear hK1 K1)))))
  refine awp_cond (t := _) rfl (fun hq => ?_) (fun hq => ?_)
  ·simp only [decide_eq_true_eq] at hq
   have hjg : j < GN.length := by omega
   have hgg : (GN.map (encG4 ks)).getD j [] = encG4 ks (GN.getD j (0, 0, 0, 0)) := getD_enc (encG4 ks) GN j _ hjg
   have hge : GN.getD j (0, 0, 0, 0) = GN[j] := by rw [List.getD_eq_getElem?_getD, List.getElem?_eq_getElem hjg]; rfl
   rw [hge] at hgg
   have hnx := S.next hjg
   have hgn : GN[j].1 ≤ 1000000 := hno _ (List.getElem_mem hjg)
   obtain ⟨gj, hgj⟩ : ∃ gj, GN[j] = gj := ⟨_, rfl⟩
   rw [hgj] at hgg hnx hgn
   obtain ⟨rj, tj, fj, pj⟩ := gj
   have hg2 : (GN.map (encG4 ks)).getD j [] = [.v (.int .i64 rj), .v (.string (ks.getD fj .empty)), .v (.string (ks.getD tj .empty)), .v (.int .i64 pj)] := hgg
   clear hgg
   (repeat ((refine gQ rfl ?_)))
   refine awp_seq ?_
   (repeat (first | refine gQ rfl ?_ | ((refine gM zM41 fun K1 hK1 => ?_; simp only [go_sem, ↓reduceIte, reduceCtorEq, nA, nB, nC, nD, nE, nF, Int.toNat_natCast, hg2, List.length_map] <;> and_intros <;> first | (apply hK1; clear hK1 K1) | (intros; (omega))))))
   refine awp_seq ?_
   refine awp_join (rl false [4, 1, 1, 2, 1, 1, 2, 4, 1, 1, 48, 3, 116]) 1 (fun s => (∃ (no i : Nat) (l : List Gift) (H : Nat → Nat → Bool) (L : Nat → List Int) (T : Nat → Nat) (kg kt kf : Nat) (h' : Hp) (hi : i < l.length), rj = no ∧ (tj, fj, pj) = l[i] ∧ Stand ps.length 8 N GN HE j no l i H L ∧ Stand ps.length 8 N GN HE (j + 1) no l (i + 1) H L ∧ NM h' mb ps.length ks L T ∧ N3 h' ps.length T kg kt kf i i i ∧ s = ⟨((jnk 4 ((.row 2 (ps.map encPe) none) :: AV.junk :: ((.row 4 (GN.map (encG4 ks)) none) :: (.v (.bool all)) :: AV.junk :: ((.map mb) :: AV.junk :: AV.junk :: ((.v (.int .i64 no)) :: (.row 1 ((frS ks l i).map encS) (some kg)) :: (.row 1 ((toS ks l i).map encS) (some kt)) :: (.row 4 (frG ks no l i) (some kf)) :: AV.junk :: ((.loc 0 0) :: (jnk 48 ((.row 4 (GN.map (encG4 ks)) none) :: (.v (.int .i64 GN.length)) :: (.v (.int .i64 j)) :: (jnk 116 [])))))))))), [[.v (.int .i64 rj), .v (.string (ks.getD fj .empty)), .v (.string (ks.getD tj .empty)), .v (.int .i64 pj)]], h'⟩) ∨ ∃ (no : Nat) (l : List Gift) (H : Nat → Nat → Bool) (L : Nat → List Int) (T : Nat → Nat) (h' : Hp) (hi : 0 < l.length), rj = no ∧ (tj, fj, pj) = l[0] ∧ Stand ps.length 8 N GN HE j no l 0 H L ∧ Stand ps.length 8 N GN HE (j + 1) no l 1 H L ∧ NM h' mb ps.length ks L T ∧ s = ⟨((jnk 4 ((.row 2 (ps.map encPe) none) :: AV.junk :: ((.row 4 (GN.map (encG4 ks)) none) :: (.v (.bool all)) :: AV.junk :: ((.map mb) :: AV.junk :: AV.junk :: ((.v (.int .i64 no)) :: (.v (.slice none 0 0)) :: (.v (.slice none 0 0)) :: (.v (.slice none 0 0)) :: AV.junk :: ((.loc 0 0) :: (jnk 48 ((.row 4 (GN.map (encG4 ks)) none) :: (.v (.int .i64 GN.length)) :: (.v (.int .i64 j)) :: (jnk 116 [])))))))))), [[.v (.int .i64 rj), .v (.string (ks.getD fj .empty)), .v (.string (ks.getD tj .empty)), .v (.int .i64 pj)]], h'⟩) ?_ ?_
   ·rcases hnx with ⟨hi, he, S2⟩ | ⟨hil, l', h0, he, S2, S0⟩
    ·obtain ⟨rfl, hgl⟩ := Prod.mk.inj he
     have hb1 : ((rj : Int) != (rj : Int)) = false := by simp
     (repeat (first | refine gO rfl ?_ | ((refine gM zM41 fun K1 hK1 => ?_; simp only [go_sem, ↓reduceIte, reduceCtorEq, nA, nB, nC, nD, nE, nF] <;> and_intros <;> (apply hK1; clear hK1 K1)))))
     refine awp_cond (t := _) rfl (fun h9 => by rw [hb1] at h9; cases h9) (fun _ => ?_)
     (repeat ((refine gO rfl ?_)))
     exact .inl ⟨rj, i, l, H, L, T, kg, kt, kf, h', hi, rfl, hgl, S, S2, hM, hN, rfl⟩
    ·obtain ⟨rfl, hgl⟩ := Prod.mk.inj he
     have hb1 : (((no + 1 : Nat) : Int) != (no : Int)) = true := by simp; omega
     subst hil
     have hfl : (frG ks no l l.length).length = l.length := frG_len (Nat.le_refl _)
     have hlb : l.length ≤ 5 := by have := rd_len S.good; omega
     (repeat (first | refine gO rfl ?_ | ((refine gM zM41 fun K1 hK1 => ?_; simp only [go_sem, ↓reduceIte, reduceCtorEq, nA, nB, nC, nD, nE, nF] <;> and_intros <;> (apply hK1; clear hK1 K1)))))
     refine awp_cond (t := _) rfl (fun _ => ?_) (fun h9 => by rw [hb1] at h9; cases h9)
     (repeat (first | refine gO rfl ?_ | ((refine gM zM41 fun K1 hK1 => ?_; simp only [go_sem, ↓reduceIte, reduceCtorEq, nA, nB, nC, nD, nE, nF, hfl] <;> and_intros <;> (apply hK1; clear hK1 K1)))))
     refine awp_loopC (rl false [4, 1, 1, 2, 1, 1, 2, 1, 4, 1, 48, 3, 7, 3, 106]) 1 (fun g s => ∃ (q : Nat) (h' : Hp), g + q = l.length ∧ NM h' mb ps.length ks (addsL L (l.take q)) T ∧
      s = ⟨((jnk 4 ((.row 2 (ps.map encPe) none) :: AV.junk :: ((.row 4 (GN.map (encG4 ks)) none) :: (.v (.bool all)) :: AV.junk :: ((.map mb) :: AV.junk :: AV.junk :: ((.v (.int .i64 no)) :: (jnk 4 ((.loc 0 0) :: (jnk 48 ((.row 4 (GN.map (encG4 ks)) none) :: (.v (.int .i64 GN.length)) :: (.v (.int .i64 j)) :: (jnk 7 ((.row 4 (frG ks no l l.length) (some kf)) :: (.v (.int .i64 l.length)) :: (.v (.int .i64 q)) :: (jnk 106 []))))))))))))), [[.v (.int .i64 ((no + 1 : Nat) : Int)), .v (.string (ks.getD fj .empty)), .v (.string (ks.getD tj .empty)), .v (.int .i64 pj)]], h'⟩) l.length ⟨0, h', by omega, hM, rfl⟩ ?_
     rintro g' _ ⟨q, h2, hgq, hM2, rfl⟩
     (repeat (first | refine gO rfl ?_ | ((refine gM zM41 fun K1 hK1 => ?_; simp only [go_sem, ↓reduceIte, reduceCtorEq, nA, nB, nC, nD, nE, nF] <;> and_intros <;> (apply hK1; clear hK1 K1)))))
     refine awp_cond (t := _) rfl (fun hq2 => ?_) (fun hq2 => ?_)
     ·simp only [decide_eq_true_eq] at hq2
      have hql : q < l.length := by omega
      have hfg := frG_get (ks := ks) (no := no) hql (Nat.le_refl l.length)
      have hga := (S.good.ok _ (List.getElem_mem hql)).1.1
      obtain ⟨gq, hgq2⟩ : ∃ gq, l[q] = gq := ⟨_, rfl⟩
      rw [hgq2] at hfg hga
      obtain ⟨ga, gb, gp⟩ := gq
      replace hga : ga < ps.length := hga
      have hfg2 : (frG ks no l l.length).getD q [] = [.v (.int .i64 no), .v (.string (ks.getD gb .empty)), .v (.string (ks.getD ga .empty)), .v (.int .i64 gp)] := hfg
      have hgv := hM2.give hkn (by omega) hql hgq2 hga
      have hm2 := hM2.hm
      have hmg := mapE_mget (L := addsL L (l.take q)) (T := T) hkn (by omega : ps.length ≤ ks.length) hga
      have htt := hM2.tt _ hga
      have hml : ((addsL L (l.take q) ga).map encI).length = (addsL L (l.take q) ga).length := List.length_map _
      have hmid := S.mid q hga
      clear hfg hgq2 hM2
      (repeat (first | refine gO rfl ?_ | ((first | refine gM zM41 ?_ | (with_reducible refine wM ?_ ?_) | ((with_reducible refine xR ?_); refine uE 25 zM41 zP16E zP16P 185 rfl (by kernel_rfl) ?_)) <;> ((try with_reducible intro K1 hK1); simp only [go_sem, ↓reduceIte, reduceCtorEq, nA, nB, nC, nD, nE, nF, Int.toNat_natCast, hfl, hfg2, hm2, hmg, htt, hml] <;> and_intros <;> first | (apply hK1; clear hK1 K1) | (intros; first | omega | decide) | skip))))
      all_goals try with_reducible rfl
      (repeat (first | refine gO rfl ?_ | ((first | refine gM zM41 ?_ | (with_reducible refine wM ?_ ?_)) <;> ((try with_reducible intro K1 hK1); simp only [go_sem, ↓reduceIte, reduceCtorEq, nA, nB, nC, nD, nE, nF, hm2] <;> and_intros <;> first | (apply hK1; clear hK1 K1) | (intros; (omega))))))
      exact ⟨g' - 1, by omega, q + 1, _, by omega, hgv, rfl⟩
     ·simp only [decide_eq_false_iff_not] at hq2
      have hql : q = l.length := by omega
      subst hql
      rw [List.take_length] at hM2
      have hb2 : (((no + 1 : Nat) : Int) != (no : Int) + 1) = false := by simp
      (repeat (first | refine gO rfl ?_ | ((refine gM zM41 fun K1 hK1 => ?_; simp only [go_sem, ↓reduceIte, reduceCtorEq, nA, nB, nC, nD, nE, nF] <;> and_intros <;> first | (apply hK1; clear hK1 K1) | (intros; (omega))))))
      refine awp_cond (t := _) rfl (fun h9 => by rw [hb2] at h9; cases h9) (fun _ => ?_)
      (repeat (first | refine gO rfl ?_ | ((refine gM zM41 fun K1 hK1 => ?_; simp only [go_sem, ↓reduceIte, reduceCtorEq, nA, nB, nC, nD, nE, nF] <;> and_intros <;> (apply hK1; clear hK1 K1)))))
      exact .inr ⟨no + 1, l', _, _, T, h2, h0, rfl, hgl, S0, S2, hM2, rfl⟩
   intro s0 hs0
   refine awp_via (fun s => ∃ (no i : Nat) (l : List Gift) (H : Nat → Nat → Bool) (L : Nat → List Int) (T : Nat → Nat) (kg kt kf : Nat) (h' : Hp) (hi : i < l.length), rj = no ∧ (tj, fj, pj) = l[i] ∧ Stand ps.length 8 N GN HE j no l i H L ∧ Stand ps.length 8 N GN HE (j + 1) no l (i + 1) H L ∧ NM h' mb ps.length ks L T ∧ N3 h' ps.length T kg kt kf i i i ∧ s = ⟨((jnk 4 ((.row 2 (ps.map encPe) none) :: AV.junk :: ((.row 4 (GN.map (encG4 ks)) none) :: (.v (.bool all)) :: AV.junk :: ((.map mb) :: AV.junk :: AV.junk :: ((.v (.int .i64 no)) :: (.row 1 ((frS ks l i).map encS) (some kg)) :: (.row 1 ((toS ks l i).map encS) (some kt)) :: (.row 4 (frG ks no l i) (some kf)) :: AV.junk :: ((.loc 0 0) :: (jnk 48 ((.row 4 (GN.map (encG4 ks)) none) :: (.v (.int .i64 GN.length)) :: (.v (.int .i64 j)) :: (jnk 116 [])))))))))), [[.v (.int .i64 rj), .v (.string (ks.getD fj .empty)), .v (.string (ks.getD tj .empty)), .v (.int .i64 pj)]], h'⟩) ?_ (fun key => ?_)
   rotate_left
   ·rcases hs0 with hs0 | ⟨no, l, H, L, T, h', hi, rfl, hgl, S, S2, hM, rfl⟩
    ·exact key _ hs0
    ·refine awp_own 13 1 rfl ⟨rfl, rfl⟩ (fun kg hkg => ?_)
     refine awp_own 14 1 rfl ⟨rfl, rfl⟩ (fun kt hkt => ?_)
     refine awp_own 15 4 rfl ⟨rfl, rfl⟩ (fun kf hkf => ?_)
     obtain ⟨hN3, hM3⟩ := N3.new hM hkg hkt hkf
     exact key _ ⟨rj, 0, l, H, L, T, kg, kt, kf, _, hi, rfl, hgl, S, S2, hM3, hN3, rfl⟩
   clear hs0
   rintro _ ⟨no, i, l, H, L, T, kg, kt, kf, h', hi, rfl, hgl, S, S2, hM, hN, rfl⟩
   obtain ⟨⟨lt1, lt2, lt3⟩, hdif, hin, hout⟩ := S.look hi
   rw [← hgl] at lt1 lt2 lt3 hin hout
   simp only at lt1 lt2 lt3 hin hout
   have hlb : l.length ≤ 5 := by have := rd_len S.good; omega
   have hn1 : ((frS ks l i).any fun y => ks.getD fj .empty == y) = false := has_no fun y hy => by
    obtain ⟨k, hk, rfl⟩ := List.getElem_of_mem hy
    rw [frS_len (by omega)] at hk
    have e : (frS ks l i)[k]'(by rw [frS_len (by omega)]; exact hk) = ks.getD (l[k]'(by omega)).2.1 .empty := by simp [frS]
    rw [e]
    intro e2
    have h1 := (hdif k hk).1
    have h2 := key_ne hkn (a := (l[k]'(by omega)).2.1) (b := fj) (by rw [hkl]; exact (S.good.ok _ (List.getElem_mem (by omega))).1.2.1) (by omega) (by rw [← hgl] at h1; exact h1)
    rw [ba_beq, decide_eq_false_iff_not] at h2; exact h2 e2
   have hn2 : ((toS ks l i).any fun y => ks.getD tj .empty == y) = false := has_no fun y hy => by
    obtain ⟨k, hk, rfl⟩ := List.getElem_of_mem hy
    rw [toS_len (by omega)] at hk
    have e : (toS ks l i)[k]'(by rw [toS_len (by omega)]; exact hk) = ks.getD (l[k]'(by omega)).1 .empty := by simp [toS]
    rw [e]
    intro e2
    have h1 := (hdif k hk).2
    have h2 := key_ne hkn (a := (l[k]'(by omega)).1) (b := tj) (by rw [hkl]; exact (S.good.ok _ (List.getElem_mem (by omega))).1.1) (by omega) (by rw [← hgl] at h1; exact h1)
    rw [ba_beq, decide_eq_false_iff_not] at h2; exact h2 e2
   have hc1 := fun h => g_hasS (frS ks l i) (ks.getD fj .empty) (some kg) h (by rw [frS_len (by omega)]; omega)
   have hc2 := fun h => g_hasS (toS ks l i) (ks.getD tj .empty) (some kt) h (by rw [toS_len (by omega)]; omega)
   rw [hn1] at hc1
   rw [hn2] at hc2
   have hb3 : ∀ a, a < ps.length → (L a).length ≤ 100000 ∧ ∀ x ∈ L a, -1000000000000000 ≤ x ∧ x ≤ 1000000000000000 := fun a ha => ⟨by have := S.has.len ha; omega, fun x hx => by have := S.has.rng a ha x hx; omega⟩
   have hc3 := fun h => g_hasInt (pj : Int) (L fj) (some (T fj)) h (hb3 fj lt2).1 (hb3 fj lt2).2
   have hc4 := fun h => g_hasInt (pj : Int) (L tj) (some (T tj)) h (hb3 tj lt1).1 (hb3 tj lt1).2
   rw [decide_eq_true hin] at hc3
   rw [decide_eq_false hout] at hc4
   have hm1 := hM.hm
   have hmf := mapE_mget (L := L) (T := T) hkn (by omega : ps.length ≤ ks.length) lt2
   have hmt := mapE_mget (L := L) (T := T) hkn (by omega : ps.length ≤ ks.length) lt1
   clear hn1 hn2 hb3 hin hout hdif
   skip
   refine awp_seq ?_
   (repeat (((refine gM zM41 fun K1 hK1 => ?_; simp only [go_sem, ↓reduceIte, reduceCtorEq, nA, nB, nC, nD, nE, nF] <;> and_intros))))
   refine (hc1 _).mono ?_; rintro _ hz ⟨rfl, hh⟩; apply hK1; clear hK1 K1; rw [hh]; clear hh hz
   (repeat (((refine gM zM41 fun K1 hK1 => ?_; simp only [go_sem, ↓reduceIte, reduceCtorEq, nA, nB, nC, nD, nE, nF] <;> and_intros))))
   rotate_left
   ·exact fun h9 => h9.elim
   refine (hc2 _).mono ?_
   rintro _ _ ⟨rfl, rfl⟩
   refine ⟨rfl, hK1 _ ?_⟩; clear hK1 K1
   (repeat (((refine gM zM41 fun K1 hK1 => ?_; simp only [go_sem, ↓reduceIte, reduceCtorEq, nA, nB, nC, nD, nE, nF, hm1, hmf] <;> and_intros))))
   refine ⟨.row 1 ((L fj).map encI) (some (T fj)), ?_, rfl, ⟨rfl, ?_⟩, fun h9 => h9.elim⟩
   ·unfold qE
    simp only [go_sem, ↓reduceIte, reduceCtorEq, Nat.reduceAdd, Nat.reduceSub, Nat.reduceMul, Nat.reduceLT, Nat.reduceLeDiff, Nat.reduceEqDiff, hm1, hmf]
    done
   refine (hc3 _).mono ?_
   rintro _ _ ⟨rfl, rfl⟩
   refine ⟨rfl, hK1 _ ?_⟩; clear hK1 K1
   (repeat (((refine gM zM41 fun K1 hK1 => ?_; simp only [go_sem, ↓reduceIte, reduceCtorEq, nA, nB, nC, nD, nE, nF, hm1, hmt] <;> and_intros))))
   refine ⟨.row 1 ((L tj).map encI) (some (T tj)), ?_, rfl, ⟨rfl, ?_⟩, fun h9 => h9.elim⟩
   ·unfold qE
    simp only [go_sem, ↓reduceIte, reduceCtorEq, Nat.reduceAdd, Nat.reduceSub, Nat.reduceMul, Nat.reduceLT, Nat.reduceLeDiff, Nat.reduceEqDiff, hm1, hmt]
    done
   refine (hc4 _).mono ?_
   rintro _ _ ⟨rfl, rfl⟩
   refine ⟨rfl, hK1 _ ?_⟩; clear hK1 K1
   (repeat (first | refine gO rfl ?_ | ((refine gM zM41 fun K1 hK1 => ?_; simp only [go_sem, ↓reduceIte, reduceCtorEq, nA, nB, nC, nD, nE, nF] <;> and_intros <;> (apply hK1; clear hK1 K1)))))
   refine awp_cond (t := _) rfl (fun h9 => by cases h9) (fun _ => ?_)
   clear hc1 hc2 hc3 hc4 hmf hmt
   obtain ⟨hN2, hM2⟩ := hN.three hM
   obtain ⟨hg1, hg2', hg3, ⟨ne1, ne2, ne3⟩, _⟩ := hN
   have hl1 : ((frS ks l i).map encS).length = i := by rw [List.length_map, frS_len (by omega)]
   have hl2 : ((toS ks l i).map encS).length = i := by rw [List.length_map, toS_len (by omega)]
   have hl3 : (frG ks rj l i).length = i := frG_len (by omega)
   have hs1 : (frS ks l i).length = i := frS_len (by omega)
   have hs2 : (toS ks l i).length = i := toS_len (by omega)
   have r1 : (frS ks l (i + 1)).map encS = (frS ks l i).map encS ++ [[.v (.string (ks.getD fj .empty))]] := by rw [frS_succ hi, ← hgl, List.map_append]; rfl
   have r2 : (toS ks l (i + 1)).map encS = (toS ks l i).map encS ++ [[.v (.string (ks.getD tj .empty))]] := by rw [toS_succ hi, ← hgl, List.map_append]; rfl
   have r3 : frG ks rj l (i + 1) = frG ks rj l i ++ [[.v (.int .i64 rj), .v (.string (ks.getD fj .empty)), .v (.string (ks.getD tj .empty)), .v (.int .i64 pj)]] := by rw [frG_succ hi, ← hgl]; rfl
   (repeat (first | refine gO rfl ?_ | ((first | refine gM zM41 ?_ | (with_reducible refine wM ?_ ?_) | ((with_reducible refine xR ?_); refine uE 32 zM41 zP17E zP17P 185 rfl (by kernel_rfl) ?_)) <;> ((try with_reducible intro K1 hK1); simp only [go_sem, ↓reduceIte, reduceCtorEq, nA, nB, nC, nD, nE, nF, hg1, hg2', hg3, hs1, hs2, hl3, List.length_map, upd_same, upd_other _ _ (Ne.symm ne1), upd_other _ _ (Ne.symm ne2), upd_other _ _ (Ne.symm ne3)] <;> and_intros <;> first | (apply hK1; clear hK1 K1) | (intros; first | omega | decide) | skip))))
   all_goals try with_reducible rfl
   (repeat (((first | refine gM zM41 ?_ | (with_reducible refine wM ?_ ?_)) <;> ((try with_reducible intro K1 hK1); simp only [go_sem, ↓reduceIte, reduceCtorEq, nA, nB, nC, nD, nE, nF, hg1, hg2', hg3, hs1, hs2, hl3, List.length_map, upd_same, upd_other _ _ (Ne.symm ne1), upd_other _ _ (Ne.symm ne2), upd_other _ _ (Ne.symm ne3)] <;> and_intros <;> first | (apply hK1; clear hK1 K1) | (intros; first | omega | decide) | skip))))
   all_goals try with_reducible rfl
   (repeat (first | refine gO rfl ?_ | ((first | refine gM zM41 ?_ | (with_reducible refine wM ?_ ?_)) <;> ((try with_reducible intro K1 hK1); simp only [go_sem, ↓reduceIte, reduceCtorEq, nA, nB, nC, nD, nE, nF, hg1, hg2', hg3, hs1, hs2, hl3, List.length_map, upd_same, upd_other _ _ (Ne.symm ne1), upd_other _ _ (Ne.symm ne2), upd_other _ _ (Ne.symm ne3)] <;> and_intros <;> first | (apply hK1; clear hK1 K1) | (intros; first | omega | decide)))))
   all_goals try with_reducible rfl
   refine ⟨g - 1, by omega, j + 1, rj, i + 1, l, H, L, T, kg, kt, kf, _, by omega, S2, hM2, hN2, ?_⟩
   rw [r1, r2, r3]
   rfl
  ·simp only [decide_eq_false_iff_not] at hq
   have hjg : j = GN.length := by omega
   obtain ⟨rfl, hhas⟩ := S.done hjg
   have hfl : (frG ks no l l.length).length = l.length := frG_len (Nat.le_refl _)
   have hlb : l.length ≤ 5 := by have := rd_len S.good; omega
   (repeat (first | refine gO rfl ?_ | ((refine gM zM41 fun K1 hK1 => ?_; simp only [go_sem, ↓reduceIte, reduceCtorEq, nA, nB, nC, nD, nE, nF, hfl] <;> and_intros <;> (apply hK1; clear hK1 K1)))))
   refine awp_loopC (rl false [4, 1, 2, 1, 1, 1, 135, 3, 37]) 0 (fun g s => ∃ (q : Nat) (h' : Hp), g + q = l.length ∧ NM h' mb ps.length ks (addsL L (l.take q)) T ∧
    s = ⟨((jnk 4 ((.row 2 (ps.map encPe) none) :: AV.junk :: AV.junk :: ((.v (.bool all)) :: AV.junk :: ((.map mb) :: (jnk 135 ((.row 4 (frG ks no l l.length) (some kf)) :: (.v (.int .i64 l.length)) :: (.v (.int .i64 q)) :: (jnk 37 [])))))))), [], h'⟩) l.length ⟨0, h', by omega, hM, rfl⟩ ?_
   rintro g' _ ⟨q, h2, hgq, hM2, rfl⟩
   (repeat (first | refine gO rfl ?_ | ((refine gM zM41 fun K1 hK1 => ?_; simp only [go_sem, ↓reduceIte, reduceCtorEq, nA, nB, nC, nD, nE, nF] <;> and_intros <;> (apply hK1; clear hK1 K1)))))
   refine awp_cond (t := _) rfl (fun hq2 => ?_) (fun hq2 => ?_)
   ·simp only [decide_eq_true_eq] at hq2
    have hql : q < l.length := by omega
    have hfg := frG_get (ks := ks) (no := no) hql (Nat.le_refl l.length)
    have hga := (S.good.ok _ (List.getElem_mem hql)).1.1
    obtain ⟨gq, hgq2⟩ : ∃ gq, l[q] = gq := ⟨_, rfl⟩
    rw [hgq2] at hfg hga
    obtain ⟨ga, gb, gp⟩ := gq
    replace hga : ga < ps.length := hga
    have hfg2 : (frG ks no l l.length).getD q [] = [.v (.int .i64 no), .v (.string (ks.getD gb .empty)), .v (.string (ks.getD ga .empty)), .v (.int .i64 gp)] := hfg
    have hgv := hM2.give hkn (by omega) hql hgq2 hga
    have hm2 := hM2.hm
    have hmg := mapE_mget (L := addsL L (l.take q)) (T := T) hkn (by omega : ps.length ≤ ks.length) hga
    have htt := hM2.tt _ hga
    have hml : ((addsL L (l.take q) ga).map encI).length = (addsL L (l.take q) ga).length := List.length_map _
    have hmid := S.mid q hga
    clear hfg hgq2 hM2
    (repeat (first | refine gO rfl ?_ | ((first | refine gM zM41 ?_ | (with_reducible refine wM ?_ ?_) | ((with_reducible refine xR ?_); refine uE 37 zM41 zP18E zP18P 185 rfl (by kernel_rfl) ?_)) <;> ((try with_reducible intro K1 hK1); simp only [go_sem, ↓reduceIte, reduceCtorEq, nA, nB, nC, nD, nE, nF, Int.toNat_natCast, hfl, hfg2, hm2, hmg, htt, hml] <;> and_intros <;> first | (apply hK1; clear hK1 K1) | (intros; first | omega | decide) | skip))))
    all_goals try with_reducible rfl
    (repeat (first | refine gO rfl ?_ | ((first | refine gM zM41 ?_ | (with_reducible refine wM ?_ ?_)) <;> ((try with_reducible intro K1 hK1); simp only [go_sem, ↓reduceIte, reduceCtorEq, nA, nB, nC, nD, nE, nF, hm2] <;> and_intros <;> first | (apply hK1; clear hK1 K1) | (intros; (omega))))))
    exact ⟨g' - 1, by omega, q + 1, _, by omega, hgv, rfl⟩
   ·simp only [decide_eq_false_iff_not] at hq2
    have hql : q = l.length := by omega
    subst hql
    rw [List.take_length] at hM2
    generalize addsL L l = L2 at *
    (repeat (first | refine gO rfl ?_ | ((refine gM zM41 fun K1 hK1 => ?_; simp only [go_sem, ↓reduceIte, reduceCtorEq, nA, nB, nC, nD, nE, nF, List.length_map] <;> and_intros <;> (apply hK1; clear hK1 K1)))))
    refine awp_loopC (rl false [4, 1, 2, 1, 1, 1, 12, 1, 140, 3, 19]) 0 (fun g s => ∃ q : Nat, g + q = ps.length ∧
     s = ⟨((jnk 4 ((.row 2 (ps.map encPe) none) :: AV.junk :: AV.junk :: ((.v (.bool all)) :: AV.junk :: ((.map mb) :: (jnk 12 ((.v (.bool (whF HE q))) :: (jnk 140 ((.row 2 (ps.map encPe) none) :: (.v (.int .i64 ps.length)) :: (.v (.int .i64 q)) :: (jnk 19 [])))))))))), [], h2⟩) ps.length ⟨0, by omega, rfl⟩ ?_
    rintro g3 _ ⟨q, hg3, rfl⟩
    (repeat (first | refine gO rfl ?_ | ((refine gM zM41 fun K1 hK1 => ?_; simp only [go_sem, ↓reduceIte, reduceCtorEq, nA, nB, nC, nD, nE, nF] <;> and_intros <;> (apply hK1; clear hK1 K1)))))
    refine awp_cond (t := _) rfl (fun hq3 => ?_) (fun hq3 => ?_)
    ·simp only [decide_eq_true_eq] at hq3
     have hqp : q < ps.length := by omega
     have hgp : (ps.map encPe).getD q [] = encPe (ps.getD q (.empty, [])) := getD_enc encPe ps q _ hqp
     have hkq : ks.getD q .empty = (ps.getD q (.empty, [])).1 := by rw [hks]; simp [List.getD_eq_getElem?_getD, List.getElem?_eq_getElem hqp]
     have hfr := full_row (hhas.nodup q hqp) (hhas.rng q hqp) (hhas.mem q hqp)
     have hle := hhas.len hqp
     have hst2 : whF HE (q + 1) = (whF HE q && decide ((L2 q).length = 8)) := by
      unfold whF; rw [hfr, List.range_succ, List.all_append]; simp
     have hmq := mapE_mget (L := L2) (T := T) hkn (by omega : ps.length ≤ ks.length) hqp
     have hm2 := hM2.hm
     rw [hkq] at hmq
     generalize ps.getD q (.empty, []) = p at *
     obtain ⟨pk, pl⟩ := p
     have hgp2 : (ps.map encPe).getD q [] = [.v (.string pk), .row 1 (pl.map encI) none] := hgp
     generalize whF HE q = wh at *
     have hml : ((L2 q).map encI).length = (L2 q).length := List.length_map _
     have hd8 : (((L2 q).length : Int) == 8) = decide ((L2 q).length = 8) := by rw [Bool.eq_iff_iff]; simp; omega
     simp only at hmq
     clear hgp hfr
     cases wh with
     | true =>
      (repeat (first | refine gO rfl ?_ | ((refine gM zM41 fun K1 hK1 => ?_; simp only [go_sem, ↓reduceIte, reduceCtorEq, nA, nB, nC, nD, nE, nF, Int.toNat_natCast, List.length_map, hgp2, hm2, hmq, hml] <;> and_intros <;> first | (apply hK1; clear hK1 K1) | (intros; (omega)) | skip))))
      refine ⟨.row 1 ((L2 q).map encI) (some (T q)), ?_, rfl, ?_⟩
      ·unfold qE
       simp only [go_sem, ↓reduceIte, reduceCtorEq, Nat.reduceAdd, Nat.reduceSub, Nat.reduceMul, Nat.reduceLT, Nat.reduceLeDiff, Nat.reduceEqDiff, hm2, hmq]
      ((simp only [go_sem, ↓reduceIte, reduceCtorEq, nA, nB, nC, nD, nE, nF, List.length_map, hml]; (try and_intros); all_goals first | (refine hK1 _ ?_; clear hK1 K1) | (intros; first | omega | decide | (simp_all <;> omega)) | skip))
      (repeat (first | refine gO rfl ?_ | ((refine gM zM41 fun K1 hK1 => ?_; simp only [go_sem, ↓reduceIte, reduceCtorEq, nA, nB, nC, nD, nE, nF, List.length_map, hml] <;> and_intros <;> first | (apply hK1; clear hK1 K1) | (intros; (omega))))))
      rw [hd8]
      refine ⟨g3 - 1, by omega, q + 1, by omega, ?_⟩
      rw [hst2]; rfl
     | false =>
      (repeat (first | refine gO rfl ?_ | ((refine gM zM41 fun K1 hK1 => ?_; simp only [go_sem, ↓reduceIte, reduceCtorEq, nA, nB, nC, nD, nE, nF, Int.toNat_natCast, List.length_map, hgp2, hm2, hmq, hml] <;> and_intros <;> first | (apply hK1; clear hK1 K1) | (intros; (omega)) | skip))))
      refine ⟨.row 1 [] none, rfl, ?_⟩
      ((simp only [go_sem, ↓reduceIte, reduceCtorEq, nA, nB, nC, nD, nE, nF]; (try and_intros); all_goals first | (refine hK1 _ ?_; clear hK1 K1) | (intros; first | omega | decide | (simp_all <;> omega)) | skip))
      (repeat (first | refine gO rfl ?_ | ((refine gM zM41 fun K1 hK1 => ?_; simp only [go_sem, ↓reduceIte, reduceCtorEq, nA, nB, nC, nD, nE, nF] <;> and_intros <;> first | (apply hK1; clear hK1 K1) | (intros; (omega))))))
      refine ⟨g3 - 1, by omega, q + 1, by omega, ?_⟩
      rw [hst2]; rfl
    ·simp only [decide_eq_false_iff_not] at hq3
     have hqp : q = ps.length := by omega
     subst hqp
     rw [← hall]
     have hbb : (all == all) = true := by cases all <;> rfl
     (repeat (first | refine gO rfl ?_ | ((refine gM zM41 fun K1 hK1 => ?_; simp only [go_sem, ↓reduceIte, reduceCtorEq, nA, nB, nC, nD, nE, nF] <;> and_intros))))
     ·intro _
      refine (g_ready _).mono ?_
      rintro _ _ rfl
      refine ⟨rfl, hK1 _ ?_⟩; clear hK1 K1
      (repeat (first | refine gO rfl ?_ | ((refine gM zM41 fun K1 hK1 => ?_; simp only [go_sem, ↓reduceIte, reduceCtorEq, nA, nB, nC, nD, nE, nF] <;> and_intros <;> (apply hK1; clear hK1 K1)))))
      simp only [Tryz.results7, go_sem, ↓reduceIte, reduceCtorEq, nA, nB, nC, nD, nE, nF]
      exact ⟨_, _, Weak.refl _, Hp.le.refl _, by rw [hbb]⟩
     ·intro h9; rw [hbb] at h9; cases h9
open Go Go.RowKit
set_option linter.unusedVariables false
set_option linter.unusedSimpArgs false
set_option maxRecDepth 100000
set_option maxHeartbeats 4000000
theorem rep_lstU {w : World} {lo z : Nat} {v : Value} {xs : List (List AV)} {us : List Value} (h : LstU w lo z v us) (hz0 : 0 < z) (hz : ∀ y ∈ xs, y.length = z) (hn : us.length = xs.length * z) (hr : RepL (G0 w) xs.flatten us) : Rep (G0 w) (.row z xs none) v := by
 obtain ⟨A, n, c, rfl, hnc, hc, hx, hr2, h9⟩ := h
 have e : n = xs.length := Nat.eq_of_mul_eq_mul_right hz0 (by omega)
 subst e
 rcases h9 with ⟨rfl, rfl⟩ | ⟨g, o, rfl⟩
 ·have : xs = [] := List.eq_nil_of_length_eq_zero (by omega)
  subst this
  exact .nil z none trivial
 ·refine Rep.row_mk hnc hz hr (fun j y hy => ?_)
  have hj := (List.getElem?_eq_some_iff.1 hy).1
  have h0 : 0 < xs.length := by
   rcases Nat.eq_zero_or_pos xs.length with h | h
   ·rw [h] at hn; omega
   ·exact h
  obtain ⟨g', o', e1, _, hlt, hcell, hf⟩ := hr2 h0
  obtain ⟨rfl, rfl⟩ : g = g' ∧ o = o' := by simpa using e1
  show cellT w g (o + j) = some y
  unfold cellT
  rw [hf j, if_neg (by simp)]
  exact hcell j y hy
theorem repL_peers {G : Gh} : ∀ (ps : List (ByteArray × List Int)) (qs : List (ByteArray × Value)), qs.length = ps.length → (∀ i (h : i < ps.length), ∃ u, qs[i]? = some (ps[i].1, u) ∧ Rep G (.row 1 (ps[i].2.map encI) none) u ∧ u.oneCell' = true) → RepL G (ps.map encPe).flatten (qs.flatMap peC)
 | [], qs, hl, _ => by
  have : qs = [] := List.eq_nil_of_length_eq_zero hl
  subst this
  exact RepL.nil G
 | p :: ps, [], hl, _ => by simp at hl
 | p :: ps, q :: qs, hl, h => by
  obtain ⟨u, h1, h2, h3⟩ := h 0 (by simp)
  simp only [List.getElem?_cons_zero, Option.some.injEq, List.getElem_cons_zero] at h1 h2
  subst h1
  rw [List.map_cons, List.flatten_cons, List.flatMap_cons]
  refine RepL.append (RepL.cons (.v _ rfl) rfl (RepL.cons h2 h3 (RepL.nil G))) (repL_peers ps qs (by simpa using hl) fun i hi => ?_)
  have := h (i + 1) (by simpa using hi)
  simpa using this
theorem rep_peers {w : World} {lo : Nat} {v : Value} {ps : List (ByteArray × List Int)} (h : PeersAt w lo v ps) : Rep (G0 w) (.row 2 (ps.map encPe) none) v := by
 obtain ⟨qs, h1, h2, h3⟩ := h
 refine rep_lstU h1 (by omega) (fun y hy => by obtain ⟨p, _, rfl⟩ := List.mem_map.1 hy; rfl) ?_ (repL_peers ps qs h2 fun i hi => ?_)
 ·have := flatK_len (enc := peC) (k := 2) (fun _ => rfl) qs
  rw [List.length_map]; omega
 ·obtain ⟨u, a, b⟩ := h3 i hi
  refine ⟨u, a, rep_lstU b (by omega) (fun y hy => by obtain ⟨p, _, rfl⟩ := List.mem_map.1 hy; rfl) (by simp [inC]) ?_, ?_⟩
  ·rw [flat_encI]
   refine ⟨by simp [inC], fun j a b => ?_⟩
   simp only [inC, List.getElem_map]
   exact ⟨.v _ rfl, rfl⟩
  ·obtain ⟨A, n, c, rfl, _⟩ := b
   rfl
theorem repL_gives {G : Gh} (ks : List ByteArray) : ∀ GN : List (Nat × Nat × Nat × Nat), RepL G (GN.map (encG4 ks)).flatten (GN.flatMap (giC ks))
 | [] => RepL.nil G
 | x :: GN => by
  rw [List.map_cons, List.flatten_cons, List.flatMap_cons]
  exact RepL.append (RepL.cons (.v _ rfl) rfl (RepL.cons (.v _ rfl) rfl (RepL.cons (.v _ rfl) rfl (RepL.cons (.v _ rfl) rfl (RepL.nil G))))) (repL_gives ks GN)
def AllR (G : Gh) (a : Act) (sl : List AV) (k : Nat) : Prop := ∀ t (h : t < sl.length), RepT G [] sl[t] (a.tmps.getD (k + t) undef)
theorem allR_nil (G : Gh) (a : Act) (k : Nat) : AllR G a [] k := fun t h => absurd h (by simp)
theorem allR_cons {G : Gh} {a : Act} {x : AV} {l : List AV} {k : Nat} (hx : RepT G [] x (a.tmps.getD k undef)) (h : AllR G a l (k + 1)) : AllR G a (x :: l) k
 | 0, _ => hx
 | t + 1, ht => by
  have := h t (by simpa using ht)
  rw [show k + (t + 1) = k + 1 + t by omega]
  exact this
theorem allR_jnk {G : Gh} {a : Act} {l : List AV} : ∀ (n : Nat) {k : Nat}, AllR G a l (k + n) → AllR G a (jnk n l) k
 | 0, _, h => h
 | n + 1, k, h => allR_cons (RepT.junk _) (allR_jnk n (by rw [show k + 1 + n = k + (n + 1) by omega]; exact h))
theorem jnkLen : ∀ (n : Nat) (l : List AV), (jnk n l).length = n + l.length
 | 0, l => by simp [jnk]
 | n + 1, l => by rw [jnk, List.length_cons, jnkLen n l]; omega
theorem spreadF_no (n m : Nat) (N : Nat → Nat → Bool) : ∀ (f no : Nat) (H : Nat → Nat → Bool), ∀ x ∈ (spreadF n m N f no H).1, x.1 ≤ no + f
 | 0, no, H, x, hx => by simp [spreadF] at hx
 | f + 1, no, H, x, hx => by
  rw [spreadF] at hx
  split at hx
  ·simp at hx
  ·rcases List.mem_append.1 hx with hx | hx
   ·obtain ⟨g, _, rfl⟩ := List.mem_map.1 hx; show no ≤ _; omega
   ·have := spreadF_no n m N f (no + 1) _ x hx; omega
theorem nob_join (ps : List (ByteArray × List Int)) (GN : List (Nat × Nat × Nat × Nat)) (all : Bool) (hps : ps.length ≤ 5) (hkn : (ps.map Prod.fst).Nodup) (hpl : ∀ p ∈ ps, p.2.length ≤ 1000 ∧ ∀ z ∈ p.2, -1000000000000000 ≤ z ∧ z ≤ 1000000000000000)
  (N HE H0' : Nat → Nat → Bool) (hst : Stand ps.length 8 N GN HE 0 0 [] 0 H0' (fun a => (ps.getD a (.empty, [])).2)) (hall : all = whF HE ps.length) (hGl : GN.length ≤ 1000000) (hno : ∀ x ∈ GN, x.1 ≤ 1000000)
  (code : Code) (hc : Tryz.f7.body = some code) (w : World) (pv gv : Value) (hp : PeersAt w 0 pv ps) (hg : LstU w 0 4 gv (GN.flatMap (giC (ps.map Prod.fst))))
  (a : Act) (ha : a.defers = []) (hsz : 185 ≤ a.tmps.size) (h4 : a.tmps.getD 4 undef = pv) (h6 : a.tmps.getD 6 undef = gv) (h7 : a.tmps.getD 7 undef = .bool all) :
  (dropSeq 7 code).wp Tryz.prog (bodyPost Tryz.prog Tryz.f7 fun e w' => e = .returned (.bool true) ∧ Below w.heap.size w w') a w := by
 have hA := nob_tail ⟨G0 w, Proofs.YtgnknjlgcinboaaGreatDoor.H0, w⟩ Proofs.YtgnknjlgcinboaaGreatDoor.H0 ps GN all hps hkn hpl N HE H0' hst hall hGl hno code hc
 have hin : In ⟨G0 w, Proofs.YtgnknjlgcinboaaGreatDoor.H0, w⟩ ⟨((jnk 4 ((.row 2 (ps.map encPe) none) :: AV.junk :: ((.row 4 (GN.map (encG4 (ps.map Prod.fst))) none) :: (.v (.bool all)) :: (jnk 177 []))))), [], Proofs.YtgnknjlgcinboaaGreatDoor.H0⟩ a w := by
  refine ⟨G0 w, [], ⟨hsim_all w, ?_, fun t ht => ?_, ha, ⟨rfl, fun j b cs e => by simp at e, fun b hb => by simp at hb, List.nodup_nil⟩⟩, GLe.refl _, Fr.refl _ _ _, fun b hb => by simp at hb⟩
  ·refine Nat.le_trans (Nat.le_of_eq ?_) hsz
   simp only [jnkLen, List.length_cons, List.length_nil]
  ·have key : AllR (G0 w) a ((jnk 4 ((.row 2 (ps.map encPe) none) :: AV.junk :: ((.row 4 (GN.map (encG4 (ps.map Prod.fst))) none) :: (.v (.bool all)) :: (jnk 177 []))))) 0 := by
    refine allR_jnk 4 (allR_cons ?_ (allR_jnk 1 (allR_cons ?_ (allR_cons ?_ (allR_jnk _ (allR_nil _ _ _))))))
    ·rw [h4]; exact RepT.of (rep_peers hp)
    ·rw [h6]
     refine RepT.of (rep_lstU hg (by omega) (fun y hy => by obtain ⟨p, _, rfl⟩ := List.mem_map.1 hy; rfl) ?_ (repL_gives _ GN))
     have := flatK_len (enc := giC (ps.map Prod.fst)) (k := 4) (fun _ => rfl) GN
     rw [List.length_map]; omega
    ·rw [h7]; exact RepT.of (.v _ rfl)
   have := key t ht
   rwa [Nat.zero_add] at this
 refine Code.wp_mono ?_ (hA a w hin)
 rintro e a' w' ⟨s, hq, G', L, sm, hgl, hfr, _⟩
 have fin : resV ty s Tryz.f7.results.toList (fun r => ∃ r' h', Weak r r' ∧ Hp.le h' s.h ∧ r' = .v (.bool true)) → a'.defers = [] ∧ ∃ v, (results Tryz.f7 a'.tmps).run Tryz.prog w' = .ok v w' ∧ ((Ending.returned v) = Ending.returned (.bool true) ∧ Below w.heap.size w w') := fun hq => by
  obtain ⟨x, v, ⟨r', h', hwk, hle, rfl⟩, hv, hr⟩ := results_sound tyok sm _ hq
  refine ⟨sm.df, v, hv, ?_, ?_⟩
  ·rw [rep_v_inv0 (hwk _ _ hr)]
  ·exact below_of_fr hfr
 cases e with
 | ret => exact fin hq
 | normal => exact fin hq
 | _ => exact hq.elim
open Go.RowKit
attribute [local go_sem ↓] Go.wp_at_zero Go.wp_at_succ
theorem own_formN {w : World} {base n size : Nat} {e : TypeId} {v : Value} {xs : List Value} (h : w.ownsRow base e size v n xs) : ∃ A m c, v = .slice A m c ∧ m = n := by
  rcases h.2 with ⟨rfl, hn⟩ | ⟨g, cap, cur, rfl, _⟩
  · exact ⟨none, 0, 0, rfl, by omega⟩
  · exact ⟨_, _, _, rfl, rfl⟩
theorem spreadF_len (n m : Nat) (N : Nat → Nat → Bool) : ∀ (f no : Nat) (H : Nat → Nat → Bool), (spreadF n m N f no H).1.length ≤ f * n
  | 0, _, _ => by simp [spreadF]
  | f + 1, no, H => by
    have ih := spreadF_len n m N f (no + 1) (applyG H (gifts n m N H))
    have hg := (gifts_ok n m N H).2
    rw [spreadF, Nat.add_mul]
    split
    · simp
    · simp only [List.length_append, noted, List.length_map]; omega
set_option maxRecDepth 100000 in
set_option maxHeartbeats 4000000 in
theorem nobody_walk (a : Option Addr) (len cap : Nat) (zs : List Int) (w : World) (h : IsRow .i64 w a len cap zs) :
    Calls Tryz.prog 7 #[.slice a len cap] w fun e w' => e = .returned (.bool true) ∧ Below w.heap.size w w' := by
  have hs0 := isStream_new (ts := 25) h
  clear h
  go_enter Tryz.func7, Tryz.ntmps7
  go_wp2_with fail
  refine (gpeers_any _ _ 8 _ hs0 (by omega) (by omega) (by omega)).mono ?_
  rintro e w2 ⟨v2, ps, hp5, hpk, rfl, pa2, g2⟩
  obtain ⟨A2, c2, rfl⟩ := pa2.form
  have z2 := g2.gb.size
  simp only [World.size_alloc] at z2
  clear hs0
  go_wp2_with fail
  refine (gnear_any _ _ (w.heap.size + 1) c2 A2 ps _ g2.is (by omega) (pa2.mono (by simp)) (by omega) hp5).mono ?_
  rintro e w3 ⟨v3, ne, hn3, rfl, o3, g3⟩
  obtain ⟨A3, n3, c3, rfl, rfl⟩ := own_formN o3
  have G3 := g2.trans g3 (Nat.le_refl _)
  have pa3 := (pa2.mono (lo' := w.heap.size + 1) (by simp)).grown g3.gb (by omega)
  have B3 : Below w.heap.size w w3 := below_gb ((Below.refl _ _).alloc (Nat.le_refl _) _) G3.gb (Nat.le_refl _)
  have HOK := Lib.hid hpk
  have PA3 := Lib.hid (pa3.mono (Nat.zero_le _))
  have NE3 := Lib.hid (ownsRow_base o3 (Nat.zero_le _))
  clear g2 g3 G3 pa2 pa3 o3 hpk z2
  go_wp2_with fail
  refine (peersFault_any A2 0 c2 ps 8 _ PA3.out HOK.out (by omega) (by omega) (by omega)).mono ?_
  rintro e w4 ⟨rfl, b4⟩
  have B4 := bon B3 b4
  have PA4 := Lib.hid (PA3.out.below b4)
  have NE4 := Lib.hid (ownsRow_below NE3.out b4)
  clear b4 B3 PA3 NE3
  by_cases hz : peersF 8 ps = 0
  rotate_left
  · have hx : (peersF 8 ps != 0) = true := by simpa using hz
    clear hz
    generalize peersF 8 ps = x at *
    go_wp2_with fail
    refine (ready_any _).mono ?_
    rintro e w5 ⟨rfl, b5⟩
    go_wp2_with fail
    go_ret
    exact ⟨rfl, bon B4 b5⟩
  · have HZ := Lib.hid hz
    rw [hz]
    clear hz
    go_wp2_with fail
    refine (nearFault_any A2 A3 0 c2 c3 ps ne _ PA4.out (by omega) (Lst.of_own NE4.out) (by omega)).mono ?_
    rintro e w5 ⟨rfl, b5⟩
    have B5 := bon B4 b5
    have PA5 := Lib.hid (PA4.out.below b5)
    have NE5 := Lib.hid (ownsRow_below NE4.out b5)
    clear b5 B4 PA4 NE4
    by_cases hy : nearF ps ne = 0
    rotate_left
    · have hx : (nearF ps ne != 0) = true := by simpa using hy
      clear hy
      generalize nearF ps ne = x at *
      go_wp2_with fail
      refine (ready_any _).mono ?_
      rintro e w6 ⟨rfl, b6⟩
      go_wp2_with fail
      go_ret
      exact ⟨rfl, bon B5 b6⟩
    · have HY := Lib.hid hy
      rw [hy]
      clear hy
      go_wp2_with fail
      refine (spread_any A2 A3 0 c2 c3 8 ps ne _ PA5.out HOK.out (by omega) (by omega) HZ.out (Lst.of_own NE5.out) (by omega) HY.out).mono ?_
      rintro e w6 ⟨v6, rfl, o6, b6⟩
      have hlen := spreadF_len ps.length 8 (nearM ps ne ne.length) (ps.length * 8) 1 (hasM ps)
      have hG1 : (spreadG ps ne 8).length ≤ 1000000 := by
        have h2 : ps.length * 8 * ps.length ≤ 5 * 8 * 5 := Nat.mul_le_mul (Nat.mul_le_mul hp5 (Nat.le_refl 8)) hp5
        show (spreadF ps.length 8 (nearM ps ne ne.length) (ps.length * 8) 1 (hasM ps)).1.length ≤ _
        omega
      have hG2 : ∀ x ∈ spreadG ps ne 8, x.1 ≤ 1000000 := fun x hx => by
        have := spreadF_no ps.length 8 (nearM ps ne ne.length) (ps.length * 8) 1 (hasM ps) x hx
        omega
      clear hlen
      go_upto_region 7 with fail
      rename_i Q' K9 h9 K7 h7
      have G9 : ∀ act : Act, act.defers = [] → 185 ≤ act.tmps.size → act.tmps.getD 4 undef = .slice A2 ps.length c2 → act.tmps.getD 6 undef = v6 → act.tmps.getD 7 undef = .bool (spreadB ps ne 8) → K9 act w6 := fun act a1 a2 a3 a4 a5 => by
        refine h9 act w6 (Code.wp_mono ?_ (nob_join ps (spreadG ps ne 8) (spreadB ps ne 8) hp5 (start_keys HZ.out) (fun p hp => (HOK.out p hp).2) _ _ _ (start_stand ne HZ.out) rfl hG1 hG2 _ rfl w6 _ v6 (PA5.out.below b6) (LstU.of_own (ownsRow_base o6 (Nat.zero_le _))) act a1 a2 a3 a4 a5))
        intro e a' w' hq
        cases e with
        | normal =>
          obtain ⟨q1, v, q2, q3, q4⟩ := hq
          exact ⟨q1, v, q2, q3, bon (bon B5 b6) q4⟩
        | ret =>
          obtain ⟨q1, v, q2, q3, q4⟩ := hq
          exact ⟨q1, v, q2, q3, bon (bon B5 b6) q4⟩
        | panic _ => exact absurd hq.2.1 (by intro h; cases h)
        | outgrown => exact absurd hq.1 (by intro h; cases h)
        | _ => exact hq.elim
      clear h9
      go_wp2_with fail
      exact G9 _ rfl (Nat.le_refl _) rfl rfl rfl
end Go.Proofs.YtgnknjlgcinboaaGreatDoor
