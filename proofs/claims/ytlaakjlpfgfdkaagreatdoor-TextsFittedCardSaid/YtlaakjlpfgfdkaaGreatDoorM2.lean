/- strings.Builder in trees: the builder is a typed object, its bytes a written row. -/
import Derived.Test.YtlaakjlpfgfdkaaGreatDoorM1
import Derived.Test.YtlaakjlpfgfdkaaGreatDoorAvOwn
import Derived.Test.YtlaakjlpfgfdkaaGreatDoorAvOld
import Derived.Test.YtlaakjlpfgfdkaaGreatDoorAvUn
import Derived.Test.YtlaakjlpfgfdkaaGreatDoorShelf
import Derived.Test.YtlaakjlpfgfdkaaGreatDoorAvTy
import Derived.Test.YtlaakjlpfgfdkaaGreatDoorAvClr
import Derived.Test.YtlaakjlpfgfdkaaGreatDoorAvMap
import Derived.Lib.Join
import Derived.Lib.TrimByte
namespace Go.Proofs.YtlaakjlpfgfdkaaGreatDoor
open Go
set_option linter.unusedVariables false
set_option linter.unusedSimpArgs false
open Nat renaming reduceAdd → nA, reduceSub → nB, reduceMul → nC, reduceLT → nD, reduceLeDiff → nE, reduceEqDiff → nF, reduceMod → nG, reduceDiv → nH, reducePow → nI
set_option maxRecDepth 100000
set_option maxHeartbeats 8000000
abbrev zM20 : Option Tmp → Nat := mdL [(6, 1)]
abbrev zM21 : Option Tmp → Nat := mdL [(4, 2)]
abbrev zM22 : Option Tmp → Nat := mdL [(65, 1)]
abbrev zM23 : Option Tmp → Nat := mdL [(11, 1), (12, 1)]
abbrev zM24 : Option Tmp → Nat := mdL [(12, 1)]
abbrev zM25 : Option Tmp → Nat := mdL [(3, 2)]
abbrev zM26 : Option Tmp → Nat := mdL [(5, 2)]
abbrev zM27 : Option Tmp → Nat := mdL [(4, 1), (5, 1)]
attribute [go_sem] zM20 zM21 zM22 zM23 zM24 zM25 zM26 zM27
section
variable {P : Program} {c : Cx} {Q : Exit → St → Prop} {s : St} {ty : Nat → Option TyD} {o : Oper}
theorem a_allocObj (hty : TyOk P ty) {t : Nat} (ho : o.op = .alloc t) {d : TyD} (hd : ty t = some d) {K : St → Prop}
  (hK : ∀ i, s.h.H i = none → K ({ s with h := { s.h with H := upd s.h.H i (some (.obj t d.zero)) } }.put o.dst (.ptr i 0))) : Aop P c o s K := by
 rintro a w ⟨G, L, sm, hg, hf, hL⟩ Kc Qc hk
 obtain ⟨z, hz, hzz, h1⟩ := zero_run (hty _ _ hd) w
 have hr : RepL G d.zero z.cells.toList := by rw [hzz]; exact RepL.map_v G h1
 obtain ⟨hn, s1, g1, f1, e1⟩ := sm.newObj (y := .obj t d.zero) (o := .cells z.cells.toList.toArray t) ⟨_, rfl, by simpa using hr⟩
 unfold Oper.wp
 have hrun : (execOp a.eval o).run P w = .ok (.value (.pointer (some ⟨w.heap.size, 0, none⟩))) (w.alloc (.cells z.cells.toList.toArray t)) := by
  simp [execOp, ho, Instr.alloc, hz, newVar, newRow]
 rw [hrun]
 exact hk _ _ _ (hK _ hn) (In.put s1 (hg.trans g1) (hf.trans f1) hL o.dst (RepT.of (.ptr _ 0 _ e1)))
theorem awp_allocT (hty : TyOk P ty) {id t : Nat} (ho : o.op = .alloc t) (hg : o.guard = none) {d : TyD} (hd : ty t = some d)
  (h : ∀ i, s.h.H i = none → Q .normal ({ s with h := { s.h with H := upd s.h.H i (some (.obj t d.zero)) } }.put o.dst (.ptr i 0))) : Awp P c (.region id #[o] false) Q s := by
 intro a w hi
 refine wp_region_list ?_
 have h2 := a_allocObj (c := c) hty ho hd (K := Q .normal) h a w hi
 have hw : Region.wanted o (yielded #[o] a.tmps) = true := by simp [Region.wanted, hg]
 unfold wpList
 rw [if_pos hw]
 refine .inl (h2 _ _ fun s' a' w' hs hi' => ?_)
 exact ⟨s', hs, hi'⟩
end
theorem one_ptr {G : Gh} {h : Hp} {w : World} {b : Nat} {vs : Array Value} (hv : vs.size = 1) (ha : ∀ j (hj : j < [AV.ptr b 0].length), Rep G [AV.ptr b 0][j] (vs.getD j undef)) : ∃ p, vs = #[.pointer (some ⟨p, 0, none⟩)] ∧ G.at_ b = some p := by
 have hr := ha 0 (by simp)
 have hvs : vs = #[vs.getD 0 undef] := by
  apply Array.ext (by simpa using hv)
  intro j hj hj'
  simp only [List.size_toArray, List.length_cons, List.length_nil] at hj'
  obtain rfl : j = 0 := by omega
  simp [Array.getD, hv]
 rw [hvs]
 generalize vs.getD 0 undef = v at hr
 simp only [List.getElem_cons_zero] at hr
 cases hr with
 | ptr _ _ p hat => exact ⟨p, rfl, hat⟩
theorem two_cells {G : Gh} {X Y : AV} {vs : Array Value} (h : RepL G [X, Y] vs.toList) : ∃ x y, vs = #[x, y] ∧ Rep G X x ∧ Rep G Y y := by
 obtain ⟨h1, h2⟩ := h
 have hs : vs.size = 2 := by simpa using h1
 refine ⟨vs[0], vs[1], ?_, ?_, ?_⟩
 ·apply Array.ext (by simpa using hs)
  intro j a b
  have : j = 0 ∨ j = 1 := by simp at b; omega
  rcases this with rfl | rfl <;> rfl
 ·have := (h2 0 (by simp) (by simp; omega)).1; simpa using this
 ·have := (h2 1 (by simp) (by simp; omega)).1; simpa using this
theorem g_copyCheck (b : Nat) (X Y : AV) (h : Hp) (hb : h.H b = some (.obj 74 [X, Y])) (hX : X = .v (.pointer none) ∨ X = .ptr b 0) :
  ACalls Tryz.prog 71 [.ptr b 0] h (fun r h' => r = .tup [] ∧ h' = { h with H := upd h.H b (some (.obj 74 [.ptr b 0, Y])) }) := by
 refine acalls_mk (by kernel_rfl) fun G w vs hs hv ha => ?_
 obtain ⟨p, rfl, hat⟩ := one_ptr (h := h) (w := w) hv ha
 obtain ⟨p', ob, e', hh, ⟨us, rfl, hrr⟩, hval⟩ := hs.obj b _ hb
 rw [hat] at e'; cases e'
 obtain ⟨x, y, rfl, hx, hy⟩ := two_cells hrr
 have hO : Own G h p := .inl ⟨b, by rw [hb]; simp, hat⟩
 have hre : RepL G [.ptr b 0, Y] [.pointer (some ⟨p, 0, none⟩), y] := by
  refine RepL.cons (.ptr b 0 p hat) rfl (RepL.cons hy ?_ (RepL.nil G))
  have := (hrr.2 1 (by simp) (by simp)).2
  simpa using this
 rcases hX with rfl | rfl
 ·obtain rfl : x = .pointer none := (RepT.of (L := []) hx).v_inv
  have hc0 : w.cell? ⟨p, 0, none⟩ = some (.pointer none) := by simp [World.cell?, hh]
  refine (copyCheck_fresh p w hc0 (by simp [World.shape?, hh]) (by simp [World.frozen?, hh])).mono ?_
  rintro e w' ⟨rfl, rfl⟩
  have hh' : (w.setCell ⟨p, 0, none⟩ (.pointer (some ⟨p, 0, none⟩))).heap[p]? = some (.cells #[.pointer (some ⟨p, 0, none⟩), y] 74 (0, 0)) := by
   exact heap_setCell_same w p 0 _ _ _ hh
  have hoth : ∀ q, q ≠ p → (w.setCell ⟨p, 0, none⟩ (.pointer (some ⟨p, 0, none⟩))).heap[q]? = w.heap[q]? := fun q hq => heap_setCell_other w _ q _ hq
  refine ⟨_, rfl, .tup [], _, G, ⟨rfl, rfl⟩, GLe.refl _, ?_, hs.setObj hb hat hoth hh' ⟨_, rfl, hre⟩, .tup [] #[] (fun _ => undef) rfl (fun j hj => by simp at hj) (fun j hj => by simp at hj)⟩
  exact ⟨rfl, rfl, rfl, by simp [World.setCell], fun q hlt hn => ⟨hoth q (fun e => hn (e ▸ hO)), fun o' => hn ((own_updH hb).1 o'), fun _ => rfl⟩⟩
 ·have hxe : x = .pointer (some ⟨p, 0, none⟩) := by
   cases hx with
   | ptr _ _ p2 hat2 => rw [hat] at hat2; cases hat2; rfl
  subst hxe
  have hc0 : w.cell? ⟨p, 0, none⟩ = some (.pointer (some ⟨p, 0, none⟩)) := by simp [World.cell?, hh]
  refine (copyCheck_used p w hc0).mono ?_
  rintro e w' ⟨rfl, rfl⟩
  refine ⟨_, rfl, .tup [], _, G, ⟨rfl, rfl⟩, GLe.refl _, ?_, hs.setObj hb hat (fun _ _ => rfl) hh ⟨_, rfl, hre⟩, .tup [] #[] (fun _ => undef) rfl (fun j hj => by simp at hj) (fun j hj => by simp at hj)⟩
  exact ⟨rfl, rfl, rfl, Nat.le_refl _, fun q hlt hn => ⟨rfl, fun o' => hn ((own_updH hb).1 o'), fun _ => rfl⟩⟩
def rowB (l : List UInt8) : List (List AV) := l.map fun x => [.v (.int .u8 (x.toNat : Int))]
theorem rowB_app (l : List UInt8) (s : ByteArray) : rowB l ++ strRow s = rowB (l ++ s.data.toList) := by simp [rowB, strRow]
theorem g_writeString (b k n : Nat) (X : AV) (s : ByteArray) (l : List UInt8) (h : Hp) (hb : h.H b = some (.obj 74 [X, .arr 1 k n])) (hX : X = .v (.pointer none) ∨ X = .ptr b 0) (hT : h.T k = some (.buf 5 (rowB l))) (hn : l.length = n) (hbig : l.length + s.size ≤ 1000000000) :
  ACalls Tryz.prog 41 [.ptr b 0, .v (.string s)] h (fun r h' => r = .tup [.v (.int .i64 s.size), .v .nilIface] ∧ h' = ⟨upd h.H b (some (.obj 74 [.ptr b 0, .arr 1 k (n + s.size)])), upd h.T k (some (.buf 5 (rowB (l ++ s.data.toList))))⟩) := by
 have hl : (rowB l).length = l.length := by simp [rowB]
 rw [← rowB_app]
 generalize rowB l = bs at *
 refine gE Tryz.func41 rfl (by kernel_rfl) 17 rfl fun c => ?_
 (repeat (first | refine gO rfl ?_ | (refine gR fun K1 hK1 => ?_; simp only [go_sem, ↓reduceIte, reduceCtorEq, nA, nB, nC, nD, nE, nF] <;> and_intros <;> first | (apply hK1; clear hK1 K1) | (intros; first | omega | decide | (simp_all <;> omega)) | skip)))
 refine (g_copyCheck b X _ h hb hX).mono ?_; rintro _ hz ⟨rfl, hh⟩; apply hK1; clear hK1 K1; rw [hh]; clear hh hz
 (repeat (first | refine gO rfl ?_ | (refine gR fun K1 hK1 => ?_; simp only [go_sem, ↓reduceIte, reduceCtorEq, nA, nB, nC, nD, nE, nF, upd_same, hT] <;> and_intros <;> first | (apply hK1; clear hK1 K1) | (intros; first | omega | decide | (simp_all <;> omega)) | skip)))
 simp only [Tryz.results41, go_sem, ↓reduceIte, reduceCtorEq, nA, nB, nC, nD, nE, nF]
 exact ⟨_, _, Weak.refl _, Hp.le.refl _, rfl, rfl⟩
open Go.RowKit in
theorem bString_row (b g cap : Nat) (cur : Array Value) (p : Value) (l : List UInt8) (w : World) (h0 : l ≠ []) (hbk : w.heap[b]? = some (.cells #[p, .slice (some ⟨g, 0, none⟩) l.length cap] 74 (0, 0))) (hg : w.heap[g]? = some (.cells cur 5 (0, 0)))
  (hnc : l.length ≤ cap) (hcm : cap ≤ maxLen) (hcs : cur.size = cap) (htake : cur.toList.take l.length = Lib.byteCells l) :
  Calls Tryz.prog 42 #[.pointer (some ⟨b, 0, none⟩)] w fun e w' => e = .returned (.string ⟨l.toArray⟩) ∧ w' = w.drew.freeze ⟨g, 0, none⟩ l.length := by
 have hl0 : l.length ≠ 0 := by simpa using h0
 have c1 : w.drew.cell? ⟨b, 1, none⟩ = some (.slice (some ⟨g, 0, none⟩) l.length cap) := by
  have : w.drew.heap[b]? = some (.cells #[p, .slice (some ⟨g, 0, none⟩) l.length cap] 74 (0, 0)) := hbk
  rw [Lib.cell_of_heap this]; rfl
 have hSD : (Builtin.unsafeSliceData_ #[72] 116 #[.slice (some ⟨g, 0, none⟩) l.length cap]).run Tryz.prog w.drew = .ok (.pointer (some ⟨g, 0, none⟩)) w.drew :=
  Lib.run_unsafeSliceData_row _ _ _ _ _ _ (by omega)
 have hUS : (Builtin.unsafeString_ #[116, 3] 9 #[.pointer (some ⟨g, 0, none⟩), .int .i64 l.length]).run Tryz.prog w.drew = .ok (.string ⟨l.toArray⟩) (w.drew.freeze ⟨g, 0, none⟩ l.length) := by
  refine Lib.run_unsafeString_row w.drew 116 3 9 5 Tryz.underlying116 (by kernel_rfl) g cur.size (by have hg' : w.drew.heap[g]? = some (.cells cur 5 (0, 0)) := hg; simp [World.shape?, hg']) l h0 (by omega) (by unfold maxLen at hcm; omega) ?_
  intro j x hx
  have hg' : w.drew.heap[g]? = some (.cells cur 5 (0, 0)) := hg
  have h1 : (cur.toList.take l.length)[j]? = some (.int .u8 x.toNat) := by rw [htake]; simp [Lib.byteCells, hx]
  rw [Addr.add_lit, Nat.zero_add, Lib.cell_of_heap hg']
  rw [List.getElem?_take] at h1
  split at h1
  ·simpa using h1
  ·cases h1
 have mixed : Tryz.prog.follows .mixedOrders = true := by kernel_rfl
 go_enter Tryz.func42, Tryz.ntmps42
 go_wp2
 go_region_o
 all_goals (go_wp2; go_ret; exact ⟨rfl, rfl⟩)
theorem HSim.other {G : Gh} {h : Hp} {w w' : World} (hs : HSim G h w) {B : Nat} (hb : ∀ b, b ≠ B → w'.heap[b]? = w.heap[b]?) (hv : ∀ o, G.val B o = none) (hn : ¬ Own G h B) : HSim G h w' where
 val b o x e := by
  have hne : b ≠ B := fun e' => by subst e'; rw [hv] at e; cases e
  rw [cellT_at (hb b hne)]; exact hs.val b o x e
 obj j ob e := by
  obtain ⟨b, o', x, y, z⟩ := hs.obj j ob e
  have hne : b ≠ B := fun e' => hn (.inl ⟨j, by rw [e]; simp, by rw [← e']; exact x⟩)
  exact ⟨b, o', x, by rw [hb b hne]; exact y, z⟩
 inj := hs.inj
 tok k m e := by
  refine (hs.tok k m e).move (GLe.refl G) rfl fun t a => ⟨?_, fun _ => rfl⟩
  have hne : t.g ≠ B := fun e' => hn (.inr ⟨k, t, by rw [e]; simp, a, e'⟩)
  rw [hb _ hne]
 tinj := hs.tinj
 tobj := hs.tobj
 fat := hs.fat
 ftl := hs.ftl
theorem repB {G : Gh} {l : List UInt8} {vs : List Value} (h : RepL G (rowB l).flatten vs) : vs = Lib.byteCells l := by
 have hf : (rowB l).flatten = (Lib.byteCells l).map AV.v := by
  unfold rowB Lib.byteCells
  clear h
  induction l with
  | nil => rfl
  | cons x l ih => simp [ih]
 rw [hf] at h
 obtain ⟨h1, h2⟩ := h
 apply List.ext_getElem (by simpa using h1)
 intro j a b
 have h3 := (h2 j (by simpa using b) a).1
 simp only [List.getElem_map] at h3
 generalize vs[j] = y at h3
 cases h3; rfl
theorem g_bString (b k : Nat) (X : AV) (l : List UInt8) (h : Hp) (hb : h.H b = some (.obj 74 [X, .arr 1 k l.length])) (hT : h.T k = some (.buf 5 (rowB l))) (h0 : l ≠ []) :
  ACalls Tryz.prog 42 [.ptr b 0] h (fun r h' => r = .v (.string ⟨l.toArray⟩) ∧ h' = ⟨upd h.H b none, upd h.T k none⟩) := by
 refine acalls_mk (by kernel_rfl) fun G w vs hs hv ha => ?_
 obtain ⟨p, rfl, hat⟩ := one_ptr (h := h) (w := w) hv ha
 obtain ⟨p', ob, e', hh, ⟨us, rfl, hrr⟩, hval⟩ := hs.obj b _ hb
 rw [hat] at e'; cases e'
 obtain ⟨x, y, rfl, hx, hy⟩ := two_cells hrr
 have hrl : (rowB l).length = l.length := by simp [rowB]
 have hne : rowB l ≠ [] := fun e => h0 (by rw [e] at hrl; exact List.eq_nil_of_length_eq_zero hrl.symm)
 rcases hs.tok k _ hT with ⟨_, e1⟩ | ⟨tt, cur, htl, htm, htp, hth, hts, htc, htcm, htf, htz, hzx, htr⟩
 ·exact absurd e1 hne
 cases hy with
 | arr _ _ _ q m c ho =>
 obtain ⟨_, ⟨q', c', e2, _, _⟩, hm⟩ := ho
 rw [htl] at hm
 obtain ⟨hxe, _⟩ := hm.2 (by rw [htm, hrl])
 simp only [Value.slice.injEq] at hxe e2
 obtain ⟨rfl, rfl, rfl⟩ := hxe
 have hfl : (rowB l).flatten.length = l.length := by rw [flatten_len hzx, hrl, Nat.mul_one]
 rw [hfl] at htr
 refine (bString_row p tt.g tt.c cur x l w h0 hh hth (by omega) htcm (by rw [hts, htz, Nat.mul_one]) (repB htr)).mono ?_
 rintro e w' ⟨rfl, rfl⟩
 have hbel : RowKit.Below tt.g w (w.drew.freeze ⟨tt.g, 0, none⟩ l.length) := Lib.below_freeze (RowKit.Below.drew (RowKit.Below.refl tt.g w)) (p := ⟨tt.g, 0, none⟩) (Nat.le_refl _) _
 have hoth : ∀ q, q ≠ tt.g → (w.drew.freeze ⟨tt.g, 0, none⟩ l.length).heap[q]? = w.heap[q]? := fun q hq => by
  unfold World.freeze
  split
  ·rfl
  ·show (w.drew.heap.modify tt.g _)[q]? = _
   rw [Array.getElem?_modify, if_neg (fun e => hq e.symm)]; rfl
 have hle : Hp.le ⟨upd h.H b none, upd h.T k none⟩ h := ⟨fun i => by
  by_cases e : i = b
  ·left; rw [e]; exact upd_same _ _ _
  ·right; exact upd_other _ _ e, fun i => by
  by_cases e : i = k
  ·left; rw [e]; exact upd_same _ _ _
  ·right; exact upd_other _ _ e⟩
 have hnO : ¬ Own G ⟨upd h.H b none, upd h.T k none⟩ tt.g := by
  rintro (⟨i, a, e⟩ | ⟨k2, t2, a, e, eg⟩)
  ·exact hs.tobj k i tt (by rw [hT]; simp) (hle.Hne a) htl e
  ·have := hs.tinj k2 k t2 tt (hle.Tne a) (by rw [hT]; simp) e htl eg
   subst this
   exact a (upd_same _ _ _)
 have hO : Own G h tt.g := .inr ⟨k, tt, by rw [hT]; simp, htl, rfl⟩
 refine ⟨_, rfl, .v (.string ⟨l.toArray⟩), _, G, ⟨rfl, rfl⟩, GLe.refl _, ?_, (hs.less hle).other hoth htf hnO, .v _ rfl⟩
 exact ⟨hbel.os, hbel.tape, hbel.output, hbel.size, fun q hlt hn => ⟨hoth q (fun e => hn (e ▸ hO)), fun o' => hn (hle.own o'), fun _ => rfl⟩⟩
open Go
set_option linter.unusedVariables false
set_option linter.unusedSimpArgs false
open Nat renaming reduceAdd → nA, reduceSub → nB, reduceMul → nC, reduceLT → nD, reduceLeDiff → nE, reduceEqDiff → nF, reduceMod → nG, reduceDiv → nH, reducePow → nI
set_option maxRecDepth 100000
set_option maxHeartbeats 8000000
section
variable {P : Program} {c : Cx} {s : St} {ty : Nat → Option TyD} {o : Oper}
theorem a_boxObj {t : Nat} {x : Operand} (ho : o.op = .box t x) {cs : List AV} (hc : (s.ev x).cellsB = some cs) {K : St → Prop}
  (hK : ∀ i, s.h.H i = none → K ({ s with h := { s.h with H := upd s.h.H i (some (.obj t cs)) } }.put o.dst (.ptr i 0))) : Aop P c o s K := by
 rintro a w ⟨G, L, sm, hg, hf, hL⟩ Kc Qc hk
 have hr := cellsB_sound (sm.ev x) hc
 obtain ⟨hn, s1, g1, f1, e1⟩ := sm.newObj (y := .obj t cs) (o := .cells (a.eval x).cells.toList.toArray t) ⟨_, rfl, by simpa using hr⟩
 unfold Oper.wp
 have hrun : (execOp a.eval o).run P w = .ok (.value (.pointer (some ⟨w.heap.size, 0, none⟩))) (w.alloc (.cells (a.eval x).cells.toList.toArray t)) := by
  simp [execOp, ho, Instr.box, newVar, newRow]
 rw [hrun]
 exact hk _ _ _ (hK _ hn) (In.put s1 (hg.trans g1) (hf.trans f1) hL o.dst (RepT.of (.ptr _ 0 _ e1)))
end
open Go.RowKit in
theorem w_ccAt (b : Nat) (w : World) (n : Nat) (h0 : w.cell? ⟨b, 2, none⟩ = some (.pointer none)) (hsh : w.shape? b = some (132, 5)) (hfz : w.frozen? ⟨b, 2, none⟩ = false) :
  Calls Tryz.prog 71 #[.pointer (some ⟨b, 2, none⟩)] w fun e w' => e = .returned (.tuple #[]) ∧ w' = w.setCell ⟨b, 2, none⟩ (.pointer (some ⟨b, 2, none⟩)) := by
 obtain ⟨j, hj, hjs⟩ := Option.map_eq_some_iff.1 sizeBuilder
 go_enter Tryz.func71, Tryz.ntmps71
 go_wp2
 rw [Lib.run_to_unsafe w ⟨b, 2, none⟩ Tryz.underlying71 Tryz.underlying159 hj (by rw [hjs]; decide) hsh (by show 2 < 5; omega)]
 simp only [Result.andThen]
 rw [Oper.upon_value]
 go_wp2
 rw [run_callFunc_extern Tryz.func102 (by kernel_rfl) (by kernel_rfl) (by kernel_rfl) (e := Extern.AbiNoEscape.same) (by kernel_rfl)]
 rw [Lib.run_noEscape]
 simp only [Result.andThen]
 rw [Oper.upon_value]
 go_wp2
 rw [Lib.run_from_unsafe w ⟨b, 2, none⟩ Tryz.underlying159 Tryz.underlying71 hj hsh (by kernel_rfl)]
 simp only [Result.andThen]
 rw [Oper.upon_value]
 go_wp2
 go_end0
 exact ⟨rfl, rfl⟩
theorem five_cells {G : Gh} {A B C D E : AV} {vs : Array Value} (h : RepL G [A, B, C, D, E] vs.toList) : ∃ a b c d e, vs = #[a, b, c, d, e] ∧ Rep G A a ∧ Rep G B b ∧ Rep G C c ∧ Rep G D d ∧ Rep G E e ∧ a.oneCell' = true ∧ b.oneCell' = true ∧ d.oneCell' = true ∧ e.oneCell' = true := by
 obtain ⟨h1, h2⟩ := h
 have hs : vs.size = 5 := by simpa using h1
 refine ⟨vs[0], vs[1], vs[2], vs[3], vs[4], ?_, ?_⟩
 ·apply Array.ext (by simpa using hs)
  intro j a b
  have : j = 0 ∨ j = 1 ∨ j = 2 ∨ j = 3 ∨ j = 4 := by simp at b; omega
  rcases this with rfl | rfl | rfl | rfl | rfl <;> rfl
 ·have a0 := h2 0 (by simp) (by simp; omega)
  have a1 := h2 1 (by simp) (by simp; omega)
  have a2 := h2 2 (by simp) (by simp; omega)
  have a3 := h2 3 (by simp) (by simp; omega)
  have a4 := h2 4 (by simp) (by simp; omega)
  simp only [List.getElem_cons_zero, List.getElem_cons_succ, Array.getElem_toList] at a0 a1 a2 a3 a4
  exact ⟨a0.1, a1.1, a2.1, a3.1, a4.1, a0.2, a1.2, a3.2, a4.2⟩
theorem one_ptrAt {G : Gh} {b o : Nat} {vs : Array Value} (hv : vs.size = 1) (ha : ∀ j (hj : j < [AV.ptr b o].length), Rep G [AV.ptr b o][j] (vs.getD j undef)) : ∃ p, vs = #[.pointer (some ⟨p, o, none⟩)] ∧ G.at_ b = some p := by
 have hr := ha 0 (by simp)
 have hvs : vs = #[vs.getD 0 undef] := by
  apply Array.ext (by simpa using hv)
  intro j hj hj'
  simp only [List.size_toArray, List.length_cons, List.length_nil] at hj'
  obtain rfl : j = 0 := by omega
  simp [Array.getD, hv]
 rw [hvs]
 generalize vs.getD 0 undef = v at hr
 simp only [List.getElem_cons_zero] at hr
 cases hr with
 | ptr _ _ p hat => exact ⟨p, rfl, hat⟩
theorem g_ccAt (b : Nat) (D R Y I : AV) (h : Hp) (hb : h.H b = some (.obj 132 [D, R, .v (.pointer none), Y, I])) :
  ACalls Tryz.prog 71 [.ptr b 2] h (fun r h' => r = .tup [] ∧ h' = { h with H := upd h.H b (some (.obj 132 [D, R, .ptr b 2, Y, I])) }) := by
 refine acalls_mk (by kernel_rfl) fun G w vs hs hv ha => ?_
 obtain ⟨p, rfl, hat⟩ := one_ptrAt hv ha
 obtain ⟨p', ob, e', hh, ⟨us, rfl, hrr⟩, hval⟩ := hs.obj b _ hb
 rw [hat] at e'; cases e'
 obtain ⟨d, r, x, y, i, rfl, hd, hrw, hx, hy, hi, od, orr, oy, oi⟩ := five_cells hrr
 have hO : Own G h p := .inl ⟨b, by rw [hb]; simp, hat⟩
 have hre : RepL G [D, R, .ptr b 2, Y, I] [d, r, .pointer (some ⟨p, 2, none⟩), y, i] :=
  RepL.cons hd od (RepL.cons hrw orr (RepL.cons (.ptr b 2 p hat) rfl (RepL.cons hy oy (RepL.cons hi oi (RepL.nil G)))))
 obtain rfl : x = .pointer none := (RepT.of (L := []) hx).v_inv
 have hc0 : w.cell? ⟨p, 2, none⟩ = some (.pointer none) := by simp [World.cell?, hh]
 refine (w_ccAt p w 0 hc0 (by simp [World.shape?, hh]) (by simp [World.frozen?, hh])).mono ?_
 rintro e w' ⟨rfl, rfl⟩
 have hh' : (w.setCell ⟨p, 2, none⟩ (.pointer (some ⟨p, 2, none⟩))).heap[p]? = some (.cells #[d, r, .pointer (some ⟨p, 2, none⟩), y, i] 132 (0, 0)) := by
  exact heap_setCell_same w p 2 _ _ _ hh
 have hoth : ∀ q, q ≠ p → (w.setCell ⟨p, 2, none⟩ (.pointer (some ⟨p, 2, none⟩))).heap[q]? = w.heap[q]? := fun q hq => heap_setCell_other w _ q _ hq
 refine ⟨_, rfl, .tup [], _, G, ⟨rfl, rfl⟩, GLe.refl _, ?_, hs.setObj hb hat hoth hh' ⟨_, rfl, hre⟩, .tup [] #[] (fun _ => undef) rfl (fun j hj => by simp at hj) (fun j hj => by simp at hj)⟩
 exact ⟨rfl, rfl, rfl, by simp [World.setCell], fun q hlt hn => ⟨hoth q (fun e => hn (e ▸ hO)), fun o' => hn ((own_updH hb).1 o'), fun _ => rfl⟩⟩
theorem g_writeAt (b k : Nat) (D R I : AV) (s : ByteArray) (h : Hp) (hb : h.H b = some (.obj 132 [D, R, .v (.pointer none), .arr 1 k 0, I])) (hT : h.T k = some (.buf 5 (rowB []))) (hbig : s.size ≤ 1000000000) :
  ACalls Tryz.prog 41 [.ptr b 2, .v (.string s)] h (fun r h' => r = .tup [.v (.int .i64 s.size), .v .nilIface] ∧ h' = ⟨upd h.H b (some (.obj 132 [D, R, .ptr b 2, .arr 1 k s.size, I])), upd h.T k (some (.buf 5 (rowB s.data.toList)))⟩) := by
 have hl : (rowB []).length = 0 := rfl
 have ha : rowB [] ++ strRow s = rowB s.data.toList := rowB_app [] s
 rw [← ha]
 generalize rowB [] = bs at *
 refine gE Tryz.func41 rfl (by kernel_rfl) 17 rfl fun c => ?_
 (repeat (first | refine gO rfl ?_ | (refine gR fun K1 hK1 => ?_; simp only [go_sem, ↓reduceIte, reduceCtorEq, nA, nB, nC, nD, nE, nF] <;> and_intros <;> first | (apply hK1; clear hK1 K1) | (intros; first | omega | decide | (simp_all <;> omega)) | skip)))
 refine (g_ccAt b D R _ I h hb).mono ?_; rintro _ hz ⟨rfl, hh⟩; apply hK1; clear hK1 K1; rw [hh]; clear hh hz
 (repeat (first | refine gO rfl ?_ | (refine gR fun K1 hK1 => ?_; simp only [go_sem, ↓reduceIte, reduceCtorEq, nA, nB, nC, nD, nE, nF, upd_same, hT] <;> and_intros <;> first | (apply hK1; clear hK1 K1) | (intros; first | omega | decide | (simp_all <;> omega)) | skip)))
 simp only [Tryz.results41, go_sem, ↓reduceIte, reduceCtorEq, nA, nB, nC, nD, nE, nF]
 exact ⟨_, _, Weak.refl _, Hp.le.refl _, rfl, by simp only [Nat.zero_add]⟩
open Go.RowKit in
theorem w_strAt (b g cap : Nat) (cur : Array Value) (d r p i : Value) (l : List UInt8) (w : World) (h0 : l ≠ []) (hbk : w.heap[b]? = some (.cells #[d, r, p, .slice (some ⟨g, 0, none⟩) l.length cap, i] 132 (0, 0))) (hg : w.heap[g]? = some (.cells cur 5 (0, 0)))
  (hnc : l.length ≤ cap) (hcm : cap ≤ maxLen) (hcs : cur.size = cap) (htake : cur.toList.take l.length = Lib.byteCells l) :
  Calls Tryz.prog 42 #[.pointer (some ⟨b, 2, none⟩)] w fun e w' => e = .returned (.string ⟨l.toArray⟩) ∧ w' = w.drew.freeze ⟨g, 0, none⟩ l.length := by
 have hl0 : l.length ≠ 0 := by simpa using h0
 have c1 : w.drew.cell? ⟨b, 3, none⟩ = some (.slice (some ⟨g, 0, none⟩) l.length cap) := by
  have : w.drew.heap[b]? = some (.cells #[d, r, p, .slice (some ⟨g, 0, none⟩) l.length cap, i] 132 (0, 0)) := hbk
  rw [Lib.cell_of_heap this]; rfl
 have hSD : (Builtin.unsafeSliceData_ #[72] 116 #[.slice (some ⟨g, 0, none⟩) l.length cap]).run Tryz.prog w.drew = .ok (.pointer (some ⟨g, 0, none⟩)) w.drew :=
  Lib.run_unsafeSliceData_row _ _ _ _ _ _ (by omega)
 have hUS : (Builtin.unsafeString_ #[116, 3] 9 #[.pointer (some ⟨g, 0, none⟩), .int .i64 l.length]).run Tryz.prog w.drew = .ok (.string ⟨l.toArray⟩) (w.drew.freeze ⟨g, 0, none⟩ l.length) := by
  refine Lib.run_unsafeString_row w.drew 116 3 9 5 Tryz.underlying116 (by kernel_rfl) g cur.size (by have hg' : w.drew.heap[g]? = some (.cells cur 5 (0, 0)) := hg; simp [World.shape?, hg']) l h0 (by omega) (by unfold maxLen at hcm; omega) ?_
  intro j x hx
  have hg' : w.drew.heap[g]? = some (.cells cur 5 (0, 0)) := hg
  have h1 : (cur.toList.take l.length)[j]? = some (.int .u8 x.toNat) := by rw [htake]; simp [Lib.byteCells, hx]
  rw [Addr.add_lit, Nat.zero_add, Lib.cell_of_heap hg']
  rw [List.getElem?_take] at h1
  split at h1
  ·simpa using h1
  ·cases h1
 have mixed : Tryz.prog.follows .mixedOrders = true := by kernel_rfl
 go_enter Tryz.func42, Tryz.ntmps42
 go_wp2
 go_region_o
 all_goals (go_wp2; go_ret; exact ⟨rfl, rfl⟩)
theorem g_strAt (b k : Nat) (D R X I : AV) (l : List UInt8) (h : Hp) (hb : h.H b = some (.obj 132 [D, R, X, .arr 1 k l.length, I])) (hT : h.T k = some (.buf 5 (rowB l))) (h0 : l ≠ []) :
  ACalls Tryz.prog 42 [.ptr b 2] h (fun r h' => r = .v (.string ⟨l.toArray⟩) ∧ h' = ⟨upd h.H b none, upd h.T k none⟩) := by
 refine acalls_mk (by kernel_rfl) fun G w vs hs hv ha => ?_
 obtain ⟨p, rfl, hat⟩ := one_ptrAt hv ha
 obtain ⟨p', ob, e', hh, ⟨us, rfl, hrr⟩, hval⟩ := hs.obj b _ hb
 rw [hat] at e'; cases e'
 obtain ⟨d, r, x, y, i, rfl, hd, hrw, hx, hy, hi, od, orr, oy, oi⟩ := five_cells hrr
 have hrl : (rowB l).length = l.length := by simp [rowB]
 have hne : rowB l ≠ [] := fun e => h0 (by rw [e] at hrl; exact List.eq_nil_of_length_eq_zero hrl.symm)
 rcases hs.tok k _ hT with ⟨_, e1⟩ | ⟨tt, cur, htl, htm, htp, hth, hts, htc, htcm, htf, htz, hzx, htr⟩
 ·exact absurd e1 hne
 cases hy with
 | arr _ _ _ q m c ho =>
 obtain ⟨_, ⟨q', c', e2, _, _⟩, hm⟩ := ho
 rw [htl] at hm
 obtain ⟨hxe, _⟩ := hm.2 (by rw [htm, hrl])
 simp only [Value.slice.injEq] at hxe e2
 obtain ⟨rfl, rfl, rfl⟩ := hxe
 have hfl : (rowB l).flatten.length = l.length := by rw [flatten_len hzx, hrl, Nat.mul_one]
 rw [hfl] at htr
 refine (w_strAt p tt.g tt.c cur d r x i l w h0 hh hth (by omega) htcm (by rw [hts, htz, Nat.mul_one]) (repB htr)).mono ?_
 rintro e w' ⟨rfl, rfl⟩
 have hbel : RowKit.Below tt.g w (w.drew.freeze ⟨tt.g, 0, none⟩ l.length) := Lib.below_freeze (RowKit.Below.drew (RowKit.Below.refl tt.g w)) (p := ⟨tt.g, 0, none⟩) (Nat.le_refl _) _
 have hoth : ∀ q, q ≠ tt.g → (w.drew.freeze ⟨tt.g, 0, none⟩ l.length).heap[q]? = w.heap[q]? := fun q hq => by
  unfold World.freeze
  split
  ·rfl
  ·show (w.drew.heap.modify tt.g _)[q]? = _
   rw [Array.getElem?_modify, if_neg (fun e => hq e.symm)]; rfl
 have hle : Hp.le ⟨upd h.H b none, upd h.T k none⟩ h := ⟨fun i => by
  by_cases e : i = b
  ·left; rw [e]; exact upd_same _ _ _
  ·right; exact upd_other _ _ e, fun i => by
  by_cases e : i = k
  ·left; rw [e]; exact upd_same _ _ _
  ·right; exact upd_other _ _ e⟩
 have hnO : ¬ Own G ⟨upd h.H b none, upd h.T k none⟩ tt.g := by
  rintro (⟨i, a, e⟩ | ⟨k2, t2, a, e, eg⟩)
  ·exact hs.tobj k i tt (by rw [hT]; simp) (hle.Hne a) htl e
  ·have := hs.tinj k2 k t2 tt (hle.Tne a) (by rw [hT]; simp) e htl eg
   subst this
   exact a (upd_same _ _ _)
 have hO : Own G h tt.g := .inr ⟨k, tt, by rw [hT]; simp, htl, rfl⟩
 refine ⟨_, rfl, .v (.string ⟨l.toArray⟩), _, G, ⟨rfl, rfl⟩, GLe.refl _, ?_, (hs.less hle).other hoth htf hnO, .v _ rfl⟩
 exact ⟨hbel.os, hbel.tape, hbel.output, hbel.size, fun q hlt hn => ⟨hoth q (fun e => hn (e ▸ hO)), fun o' => hn (hle.own o'), fun _ => rfl⟩⟩
open Go
set_option linter.unusedVariables false
set_option linter.unusedSimpArgs false
theorem g_itoa (n : Nat) (hn : n < 100) (h : Hp) : ACalls Tryz.prog 207 [.v (.int .i64 n)] h (fun r h' => r = .v (.string ⟨(Lib.decDigits n).toArray⟩) ∧ h' = h) := by
 refine acalls_mk (by kernel_rfl) fun G w vs hs hv ha => ?_
 have hr := ha 0 (by simp)
 have hvs : vs = #[vs.getD 0 undef] := by
  have hv1 : vs.size = 1 := hv
  apply Array.ext (by simpa using hv1)
  intro j hj hj'
  simp only [List.size_toArray, List.length_cons, List.length_nil] at hj'
  obtain rfl : j = 0 := by omega
  simp [Array.getD, hv1]
 rw [hvs]
 generalize vs.getD 0 undef = v at hr
 simp only [List.getElem_cons_zero] at hr
 cases hr
 refine (Tryz.strconv_Itoa_small n hn w).mono ?_
 rintro e w' ⟨rfl, rfl⟩
 exact ⟨_, rfl, .v (.string ⟨(Lib.decDigits n).toArray⟩), h, G, ⟨rfl, rfl⟩, GLe.refl _, Fr.refl _ _ _, hs, .v _ rfl⟩
open Nat renaming reduceAdd → nA, reduceSub → nB, reduceMul → nC, reduceLT → nD, reduceLeDiff → nE, reduceEqDiff → nF, reduceMod → nG, reduceDiv → nH, reducePow → nI
abbrev zPFE : List Nat := [0, 1, 2, 3, 4, 6, 7]
abbrev zPFP : List (Nat × List Nat × List Nat) := [(5, [], []), (8, [], [9, 10, 11, 12])]
abbrev zPGE : List Nat := [0, 1, 2, 3, 4, 6, 7, 10, 11, 13, 14]
abbrev zPGP : List (Nat × List Nat × List Nat) := [(5, [], []), (8, [], [9]), (12, [], []), (15, [], [16, 17, 18, 19, 20])]
abbrev zPHE : List Nat := [0, 1, 2, 3, 4, 5, 6, 7, 8, 9, 10, 11, 12, 13, 14, 15, 16]
abbrev zPHP : List (Nat × List Nat × List Nat) := []
abbrev zPIE : List Nat := [0, 1, 2, 3, 4, 5, 6, 7, 8, 9, 10, 11, 12, 13, 14, 15, 16, 17, 18, 19, 20, 21, 22, 23, 24, 25, 26]
abbrev zPIP : List (Nat × List Nat × List Nat) := []
abbrev zPJE : List Nat := [0, 1, 2, 3, 4, 5, 6, 7, 8, 9, 10, 11, 12, 13, 14, 15, 16, 17, 18, 19, 20, 21, 22, 23, 24, 25, 26, 27, 28, 29, 30, 31, 32, 33, 34, 35, 36]
abbrev zPJP : List (Nat × List Nat × List Nat) := []
abbrev zPKE : List Nat := [0, 1, 2, 3, 4, 5, 6, 7, 8, 9, 10, 11, 12]
abbrev zPKP : List (Nat × List Nat × List Nat) := []
abbrev zPLE : List Nat := [0, 1, 2, 8]
abbrev zPLP : List (Nat × List Nat × List Nat) := [(3, [1], [4, 5, 6]), (7, [], [9]), (10, [], [])]
attribute [go_sem] zPFE zPFP zPGE zPGP zPHE zPHP zPIE zPIP zPJE zPJP zPKE zPKP zPLE zPLP
set_option maxRecDepth 100000
set_option maxHeartbeats 8000000
theorem repL_v_inv {G : Gh} {l us : List Value} (h : RepL G (l.map AV.v) us) : us = l := by
 obtain ⟨h1, h2⟩ := h
 apply List.ext_getElem (by simpa using h1)
 intro j a b
 have h3 := (h2 j (by simpa using b) a).1
 simp only [List.getElem_map] at h3
 generalize us[j] = y at h3
 cases h3; rfl
theorem c_search (h : Hp) : ACalls Tryz.prog 201 [.row 6 [fC] none, .v (.string sN), .fn 202 []] h (fun r h' => r = .tup [.v (.int .i64 0), .v (.bool true)] ∧ h' = h) := by
 refine acalls_mk (by kernel_rfl) fun G w vs hs hv ha => ?_
 have hv3 : vs.size = 3 := hv
 have r0 := ha 0 (by simp)
 have r1 := ha 1 (by simp)
 have r2 := ha 2 (by simp)
 have hvs : vs = #[vs.getD 0 undef, vs.getD 1 undef, vs.getD 2 undef] := by
  apply Array.ext (by simpa using hv3)
  intro j hj hj'
  simp only [List.size_toArray, List.length_cons, List.length_nil] at hj'
  have : j = 0 ∨ j = 1 ∨ j = 2 := by omega
  rcases this with rfl | rfl | rfl <;> simp [Array.getD, hv3]
 rw [hvs]
 generalize vs.getD 0 undef = v0 at *
 generalize vs.getD 1 undef = v1 at *
 generalize vs.getD 2 undef = v2 at *
 simp only [List.getElem_cons_zero, List.getElem_cons_succ] at r0 r1 r2
 cases r1
 cases r2 with | fn _ _ cvs u hl hu hr =>
 obtain rfl : cvs = #[] := Array.eq_empty_of_size_eq_zero hl
 rcases Rep.row_inv r0 with ⟨a, _, e⟩ | ⟨g, o, c, us, rfl, hc, hz, hru, hu2⟩
 ·cases e
 ·have hus : us = fV := repL_v_inv (by simpa [fC] using hru)
  subst hus
  have hcell : ∀ j (hj : j < fV.length), w.cell? ⟨g, o + j, none⟩ = some fV[j] := fun j hj => hs.cell _ _ _ (hu2 j _ (List.getElem?_eq_getElem hj))
  refine (w_search g o c w (World.block_lt_of_cell? w _ (hcell 0 (by decide))) hcell).mono ?_
  rintro e w' ⟨rfl, hb⟩
  have hb' : ∀ b, b < w.heap.size → w'.heap[b]? = w.heap[b]? := fun b hb2 => hb.block b hb2
  refine ⟨_, rfl, _, h, G, ⟨rfl, rfl⟩, GLe.refl _, Fr.below (Fr.refl _ _ _) hb' hb.os hb.tape hb.output hb.size, hs.below hb', ?_⟩
  refine .tup _ _ (fun j => [Value.int .i64 0, Value.bool true].getD j undef) rfl (fun j hj => ?_) (fun j hj => ?_)
  ·have : j = 0 ∨ j = 1 := by simp at hj; omega
   rcases this with rfl | rfl <;> rfl
  ·have : j = 0 ∨ j = 1 := by simp at hj; omega
   rcases this with rfl | rfl <;> exact .v _ rfl
theorem c_valid0 (h : Hp) : ACalls Tryz.prog 168 [.v (.string ⟨#[]⟩)] h (fun r h' => r = .v (.bool true) ∧ h' = h) := by
 have z : ((⟨#[]⟩ : ByteArray).size : Int) = 0 := rfl
 refine gE Tryz.func168 rfl (by kernel_rfl) 168 rfl fun c => ?_
 (repeat (first | refine gO rfl ?_ | ((first | refine gM zM20 ?_ | (with_reducible refine wM ?_ ?_) | ((with_reducible refine xS ?_); refine uD 7 zM20 zPFE zPFP 169 rfl (by kernel_rfl) ?_) | ((with_reducible refine xS ?_); refine uD 9 zM20 zPGE zPGP 169 rfl (by kernel_rfl) ?_) | ((with_reducible refine xS ?_); refine uD 17 zM20 zPHE zPHP 169 rfl (by kernel_rfl) ?_) | ((with_reducible refine xS ?_); refine uD 21 zM20 zPIE zPIP 169 rfl (by kernel_rfl) ?_) | ((with_reducible refine xS ?_); refine uD 25 zM20 zPJE zPJP 169 rfl (by kernel_rfl) ?_)) <;> ((try with_reducible intro K1 hK1); simp only [go_sem, ↓reduceIte, reduceCtorEq, nA, nB, nC, nD, nE, nF, Int.reduceBEq, Int.reduceTMod, Int.reduceTDiv, Int.reduceMul, Int.reduceBNe, Int.reduceLT, Int.reduceLE, Int.reduceAdd, Int.reduceSub, Int.reduceNeg, decide_true, decide_false, Bool.true_and, Bool.false_and, Bool.and_true, Bool.and_false, Bool.or_false, Bool.or_true, Bool.true_or, Bool.false_or, Bool.not_true, Bool.not_false, true_implies, false_implies, true_and, and_true, Int.reduceToNat, z] <;> and_intros <;> first | (apply hK1; clear hK1 K1) | (intros; first | omega | decide) | skip)) | (refine awp_cond (t := _) rfl (fun hq => ?_) (fun hq => ?_) <;> first | (exact absurd hq (by decide)) | (cases hq; done) | (clear hq)) | (refine awp_un 8 ?_) | (with_reducible exact rfl) | (with_reducible exact trivial) | ((with_reducible show uside _); first | exact True.intro | exact rfl) | ((with_reducible show opS _ _); exact True.intro) | (refine ⟨AV.v (.bool true), rfl, hK1 _ ?_⟩; clear hK1 K1)))
 simp only [Tryz.results168, go_sem, ↓reduceIte, reduceCtorEq, nA, nB, nC, nD, nE, nF]
 exact ⟨_, _, Weak.refl _, Hp.le.refl _, rfl, rfl⟩
theorem fC_eq : fC = [.v (.string sN), .v (.int .i64 2), .v (.string ⟨#[]⟩), .v (.int .i64 5), .v (.bool false), .v (.slice none 0 0)] := rfl
theorem e00 : ((⟨#[]⟩ : ByteArray) == ⟨#[]⟩) = true := by decide
theorem c_idle (h : Hp) : ACalls Tryz.prog 167 [.agg fC] h (fun r h' => r = .v (.bool true) ∧ h' = h) := by
 rw [fC_eq]
 refine gE Tryz.func167 rfl (by kernel_rfl) 41 rfl fun c => ?_
 (repeat (first | refine gO rfl ?_ | (refine gR fun K1 hK1 => ?_; simp only [go_sem, ↓reduceIte, reduceCtorEq, nA, nB, nC, nD, nE, nF, Int.reduceBEq, Int.reduceTMod, Int.reduceTDiv, Int.reduceMul, Int.reduceBNe, Int.reduceLT, Int.reduceLE, Int.reduceAdd, Int.reduceSub, Int.reduceNeg, decide_true, decide_false, Bool.true_and, Bool.false_and, Bool.and_true, Bool.and_false, Bool.or_false, Bool.or_true, Bool.true_or, Bool.false_or, Bool.not_true, Bool.not_false, true_implies, false_implies, true_and, and_true, Int.reduceToNat, e00] <;> and_intros <;> first | (apply hK1; clear hK1 K1) | (intros; first | omega | decide) | skip) | (refine awp_cond (t := _) rfl (fun hq => ?_) (fun hq => ?_) <;> first | (exact absurd hq (by decide)) | (cases hq; done) | (clear hq)) | (refine awp_un 8 ?_) | (with_reducible exact rfl) | (with_reducible exact trivial) | ((with_reducible show uside _); first | exact True.intro | exact rfl) | ((with_reducible show opS _ _); exact True.intro) | (refine ⟨AV.v (.bool true), rfl, hK1 _ ?_⟩; clear hK1 K1)))
 simp only [Tryz.results167, go_sem, ↓reduceIte, reduceCtorEq, nA, nB, nC, nD, nE, nF]
 exact ⟨_, _, Weak.refl _, Hp.le.refl _, rfl, rfl⟩
theorem c_fieldFault (h : Hp) : ACalls Tryz.prog 140 [.agg fC, .v (.int .i64 0)] h (fun r h' => r = .v (.int .i64 0) ∧ h' = h) := by
 have h1 := fun h => a_outside 2 1 4 h
 have h2 := fun h => c_idle h
 have h3 := fun h => c_valid0 h
 have h4 := fun h => a_outside 5 (-1000000000) 1000000000 h
 have z : ((⟨#[]⟩ : ByteArray).size : Int) = 0 := rfl
 have z2 : ((#[] : Array UInt8).size : Int) = 0 := rfl
 rw [fC_eq] at *
 refine gE Tryz.func140 rfl (by kernel_rfl) 59 rfl fun c => ?_
 (repeat (first | refine gO rfl ?_ | (refine gR fun K1 hK1 => ?_; simp only [go_sem, ↓reduceIte, reduceCtorEq, nA, nB, nC, nD, nE, nF, Int.reduceBEq, Int.reduceTMod, Int.reduceTDiv, Int.reduceMul, Int.reduceBNe, Int.reduceLT, Int.reduceLE, Int.reduceAdd, Int.reduceSub, Int.reduceNeg, decide_true, decide_false, Bool.true_and, Bool.false_and, Bool.and_true, Bool.and_false, Bool.or_false, Bool.or_true, Bool.true_or, Bool.false_or, Bool.not_true, Bool.not_false, true_implies, false_implies, true_and, and_true, Int.reduceToNat, z, z2] <;> and_intros <;> first | (apply hK1; clear hK1 K1) | (intros; first | omega | decide) | skip) | (refine awp_cond (t := _) rfl (fun hq => ?_) (fun hq => ?_) <;> first | (exact absurd hq (by decide)) | (cases hq; done) | (clear hq)) | (refine awp_un 8 ?_) | (with_reducible exact rfl) | (with_reducible exact trivial) | ((with_reducible show uside _); first | exact True.intro | exact rfl) | ((with_reducible show opS _ _); exact True.intro) | (refine ⟨AV.v (.bool true), rfl, hK1 _ ?_⟩; clear hK1 K1) | (refine (h1 _).mono ?_; rintro _ hz ⟨rfl, hh⟩; (first | (refine hK1 _ ?_) | (refine ⟨rfl, hK1 _ ?_⟩)); clear hK1 K1; rw [hh]; clear hh hz) | (refine (h2 _).mono ?_; rintro _ hz ⟨rfl, hh⟩; (first | (refine hK1 _ ?_) | (refine ⟨rfl, hK1 _ ?_⟩)); clear hK1 K1; rw [hh]; clear hh hz) | (refine (h3 _).mono ?_; rintro _ hz ⟨rfl, hh⟩; (first | (refine hK1 _ ?_) | (refine ⟨rfl, hK1 _ ?_⟩)); clear hK1 K1; rw [hh]; clear hh hz) | (refine (h4 _).mono ?_; rintro _ hz ⟨rfl, hh⟩; (first | (refine hK1 _ ?_) | (refine ⟨rfl, hK1 _ ?_⟩)); clear hK1 K1; rw [hh]; clear hh hz)))
 simp only [Tryz.results140, go_sem, ↓reduceIte, reduceCtorEq, nA, nB, nC, nD, nE, nF]
 exact ⟨_, _, Weak.refl _, Hp.le.refl _, rfl, rfl⟩
theorem c_dataFault (h : Hp) : ACalls Tryz.prog 113 [.row 6 [fC] none, .v (.int .i64 0)] h (fun r h' => r = .v (.int .i64 0) ∧ h' = h) := by
 have h1 := fun h => c_isName h
 have h2 := fun h => c_fieldFault h
 rw [fC_eq] at *
 refine gE Tryz.func113 rfl (by kernel_rfl) 40 rfl fun c => ?_
 (repeat (first | refine gO rfl ?_ | ((first | refine gM zM20 ?_ | (with_reducible refine wM ?_ ?_) | ((with_reducible refine xS ?_); refine uD 8 zM20 zPKE zPKP 42 rfl (by kernel_rfl) ?_)) <;> ((try with_reducible intro K1 hK1); simp only [go_sem, ↓reduceIte, reduceCtorEq, nA, nB, nC, nD, nE, nF, Int.reduceBEq, Int.reduceTMod, Int.reduceTDiv, Int.reduceMul, Int.reduceBNe, Int.reduceLT, Int.reduceLE, Int.reduceAdd, Int.reduceSub, Int.reduceNeg, decide_true, decide_false, Bool.true_and, Bool.false_and, Bool.and_true, Bool.and_false, Bool.or_false, Bool.or_true, Bool.true_or, Bool.false_or, Bool.not_true, Bool.not_false, true_implies, false_implies, true_and, and_true, Int.reduceToNat] <;> and_intros <;> first | (apply hK1; clear hK1 K1) | (intros; first | omega | decide) | skip)) | (refine awp_cond (t := _) rfl (fun hq => ?_) (fun hq => ?_) <;> first | (exact absurd hq (by decide)) | (cases hq; done) | (clear hq)) | (refine awp_un 8 ?_) | (with_reducible exact rfl) | (with_reducible exact trivial) | ((with_reducible show uside _); first | exact True.intro | exact rfl) | ((with_reducible show opS _ _); exact True.intro) | (refine ⟨AV.v (.bool true), rfl, hK1 _ ?_⟩; clear hK1 K1) | (refine (h1 _).mono ?_; rintro _ hz ⟨rfl, hh⟩; (first | (refine hK1 _ ?_) | (refine ⟨rfl, hK1 _ ?_⟩)); clear hK1 K1; rw [hh]; clear hh hz) | (refine (h2 _).mono ?_; rintro _ hz ⟨rfl, hh⟩; (first | (refine hK1 _ ?_) | (refine ⟨rfl, hK1 _ ?_⟩)); clear hK1 K1; rw [hh]; clear hh hz)))
 simp only [Tryz.results113, go_sem, ↓reduceIte, reduceCtorEq, nA, nB, nC, nD, nE, nF]
 exact ⟨_, _, Weak.refl _, Hp.le.refl _, rfl, rfl⟩
theorem c_checkData (h : Hp) : ACalls Tryz.prog 83 [.row 6 [fC] none] h (fun r h' => r = .v (.int .i64 0) ∧ h' = h) := by
 have h2 := fun h => c_dataFault h
 rw [fC_eq] at *
 refine gE Tryz.func83 rfl (by kernel_rfl) 4 rfl fun c => ?_
 (repeat (first | refine gO rfl ?_ | (refine gR fun K1 hK1 => ?_; simp only [go_sem, ↓reduceIte, reduceCtorEq, nA, nB, nC, nD, nE, nF, Int.reduceBEq, Int.reduceTMod, Int.reduceTDiv, Int.reduceMul, Int.reduceBNe, Int.reduceLT, Int.reduceLE, Int.reduceAdd, Int.reduceSub, Int.reduceNeg, decide_true, decide_false, Bool.true_and, Bool.false_and, Bool.and_true, Bool.and_false, Bool.or_false, Bool.or_true, Bool.true_or, Bool.false_or, Bool.not_true, Bool.not_false, true_implies, false_implies, true_and, and_true, Int.reduceToNat] <;> and_intros <;> first | (apply hK1; clear hK1 K1) | (intros; first | omega | decide) | skip) | (refine awp_cond (t := _) rfl (fun hq => ?_) (fun hq => ?_) <;> first | (exact absurd hq (by decide)) | (cases hq; done) | (clear hq)) | (refine awp_un 8 ?_) | (with_reducible exact rfl) | (with_reducible exact trivial) | ((with_reducible show uside _); first | exact True.intro | exact rfl) | ((with_reducible show opS _ _); exact True.intro) | (refine ⟨AV.v (.bool true), rfl, hK1 _ ?_⟩; clear hK1 K1) | (refine (h2 _).mono ?_; rintro _ hz ⟨rfl, hh⟩; (first | (refine hK1 _ ?_) | (refine ⟨rfl, hK1 _ ?_⟩)); clear hK1 K1; rw [hh]; clear hh hz)))
 simp only [Tryz.results83, go_sem, ↓reduceIte, reduceCtorEq, nA, nB, nC, nD, nE, nF]
 exact ⟨_, _, Weak.refl _, Hp.le.refl _, rfl, rfl⟩
theorem c_fieldAt (h : Hp) : ACalls Tryz.prog 171 [.row 6 [fC] none, .v (.string sN)] h (fun r h' => r = .tup [.agg fC, .v (.bool true)] ∧ h' = h) := by
 have h2 := fun h => c_search h
 rw [fC_eq] at *
 refine gE Tryz.func171 rfl (by kernel_rfl) 19 rfl fun c => ?_
 (repeat (first | refine gO rfl ?_ | (refine gM zM21 fun K1 hK1 => ?_; simp only [go_sem, ↓reduceIte, reduceCtorEq, nA, nB, nC, nD, nE, nF, Int.reduceBEq, Int.reduceTMod, Int.reduceTDiv, Int.reduceMul, Int.reduceBNe, Int.reduceLT, Int.reduceLE, Int.reduceAdd, Int.reduceSub, Int.reduceNeg, decide_true, decide_false, Bool.true_and, Bool.false_and, Bool.and_true, Bool.and_false, Bool.or_false, Bool.or_true, Bool.true_or, Bool.false_or, Bool.not_true, Bool.not_false, true_implies, false_implies, true_and, and_true, Int.reduceToNat] <;> and_intros <;> first | (apply hK1; clear hK1 K1) | (intros; first | omega | decide) | skip) | (refine awp_cond (t := _) rfl (fun hq => ?_) (fun hq => ?_) <;> first | (exact absurd hq (by decide)) | (cases hq; done) | (clear hq)) | (refine awp_un 8 ?_) | (with_reducible exact rfl) | (with_reducible exact trivial) | ((with_reducible show uside _); first | exact True.intro | exact rfl) | ((with_reducible show opS _ _); exact True.intro) | (refine ⟨AV.v (.bool true), rfl, hK1 _ ?_⟩; clear hK1 K1) | (refine (h2 _).mono ?_; rintro _ hz ⟨rfl, hh⟩; (first | (refine hK1 _ ?_) | (refine ⟨rfl, hK1 _ ?_⟩)); clear hK1 K1; rw [hh]; clear hh hz)))
 intro p hp
 refine hK1 _ ?_; clear hK1 K1
 (repeat (first | refine gO rfl ?_ | (refine gM zM21 fun K1 hK1 => ?_; simp only [go_sem, ↓reduceIte, reduceCtorEq, nA, nB, nC, nD, nE, nF, Int.reduceBEq, Int.reduceTMod, Int.reduceTDiv, Int.reduceMul, Int.reduceBNe, Int.reduceLT, Int.reduceLE, Int.reduceAdd, Int.reduceSub, Int.reduceNeg, decide_true, decide_false, Bool.true_and, Bool.false_and, Bool.and_true, Bool.and_false, Bool.or_false, Bool.or_true, Bool.true_or, Bool.false_or, Bool.not_true, Bool.not_false, true_implies, false_implies, true_and, and_true, Int.reduceToNat, upd_same] <;> and_intros <;> first | (apply hK1; clear hK1 K1) | (intros; first | omega | decide) | skip) | (refine awp_cond (t := _) rfl (fun hq => ?_) (fun hq => ?_) <;> first | (exact absurd hq (by decide)) | (cases hq; done) | (clear hq)) | (refine awp_un 8 ?_) | (with_reducible exact rfl) | (with_reducible exact trivial) | ((with_reducible show uside _); first | exact True.intro | exact rfl) | ((with_reducible show opS _ _); exact True.intro) | (refine ⟨AV.v (.bool true), rfl, hK1 _ ?_⟩; clear hK1 K1) | (refine (h2 _).mono ?_; rintro _ hz ⟨rfl, hh⟩; (first | (refine hK1 _ ?_) | (refine ⟨rfl, hK1 _ ?_⟩)); clear hK1 K1; rw [hh]; clear hh hz)))
 simp only [Tryz.results171, go_sem, ↓reduceIte, reduceCtorEq, nA, nB, nC, nD, nE, nF]
 exact ⟨_, h, Weak.refl _, hle_obj hp, rfl, rfl⟩
theorem c_numberText (h : Hp) : ACalls Tryz.prog 176 [.v (.int .i64 5)] h (fun r h' => r = .v (.string ⟨#[53]⟩) ∧ h' = h) := by
 have h2 := fun h => g_itoa 5 (by decide) h
 rw [show (Lib.decDigits 5).toArray = #[53] by unfold Lib.decDigits; rfl] at h2
 refine gE Tryz.func176 rfl (by kernel_rfl) 4 rfl fun c => ?_
 (repeat (first | refine gO rfl ?_ | (refine gR fun K1 hK1 => ?_; simp only [go_sem, ↓reduceIte, reduceCtorEq, nA, nB, nC, nD, nE, nF, Int.reduceBEq, Int.reduceTMod, Int.reduceTDiv, Int.reduceMul, Int.reduceBNe, Int.reduceLT, Int.reduceLE, Int.reduceAdd, Int.reduceSub, Int.reduceNeg, decide_true, decide_false, Bool.true_and, Bool.false_and, Bool.and_true, Bool.and_false, Bool.or_false, Bool.or_true, Bool.true_or, Bool.false_or, Bool.not_true, Bool.not_false, true_implies, false_implies, true_and, and_true, Int.reduceToNat] <;> and_intros <;> first | (apply hK1; clear hK1 K1) | (intros; first | omega | decide) | skip) | (refine awp_cond (t := _) rfl (fun hq => ?_) (fun hq => ?_) <;> first | (exact absurd hq (by decide)) | (cases hq; done) | (clear hq)) | (refine awp_un 8 ?_) | (with_reducible exact rfl) | (with_reducible exact trivial) | ((with_reducible show uside _); first | exact True.intro | exact rfl) | ((with_reducible show opS _ _); exact True.intro) | (refine ⟨AV.v (.bool true), rfl, hK1 _ ?_⟩; clear hK1 K1) | (refine (h2 _).mono ?_; rintro _ hz ⟨rfl, hh⟩; (first | (refine hK1 _ ?_) | (refine ⟨rfl, hK1 _ ?_⟩)); clear hK1 K1; rw [hh]; clear hh hz)))
 simp only [Tryz.results176, go_sem, ↓reduceIte, reduceCtorEq, nA, nB, nC, nD, nE, nF]
 exact ⟨_, _, Weak.refl _, Hp.le.refl _, rfl, rfl⟩
theorem c_said (h : Hp) : ACalls Tryz.prog 144 [.agg fC] h (fun r h' => r = .v (.string ⟨#[53]⟩) ∧ h' = h) := by
 have h2 := fun h => c_numberText h
 rw [fC_eq] at *
 refine gE Tryz.func144 rfl (by kernel_rfl) 16 rfl fun c => ?_
 (repeat (first | refine gO rfl ?_ | (refine gR fun K1 hK1 => ?_; simp only [go_sem, ↓reduceIte, reduceCtorEq, nA, nB, nC, nD, nE, nF, Int.reduceBEq, Int.reduceTMod, Int.reduceTDiv, Int.reduceMul, Int.reduceBNe, Int.reduceLT, Int.reduceLE, Int.reduceAdd, Int.reduceSub, Int.reduceNeg, decide_true, decide_false, Bool.true_and, Bool.false_and, Bool.and_true, Bool.and_false, Bool.or_false, Bool.or_true, Bool.true_or, Bool.false_or, Bool.not_true, Bool.not_false, true_implies, false_implies, true_and, and_true, Int.reduceToNat] <;> and_intros <;> first | (apply hK1; clear hK1 K1) | (intros; first | omega | decide) | skip) | (refine awp_cond (t := _) rfl (fun hq => ?_) (fun hq => ?_) <;> first | (exact absurd hq (by decide)) | (cases hq; done) | (clear hq)) | (refine awp_un 8 ?_) | (with_reducible exact rfl) | (with_reducible exact trivial) | ((with_reducible show uside _); first | exact True.intro | exact rfl) | ((with_reducible show opS _ _); exact True.intro) | (refine ⟨AV.v (.bool true), rfl, hK1 _ ?_⟩; clear hK1 K1) | (refine (h2 _).mono ?_; rintro _ hz ⟨rfl, hh⟩; (first | (refine hK1 _ ?_) | (refine ⟨rfl, hK1 _ ?_⟩)); clear hK1 K1; rw [hh]; clear hh hz)))
 simp only [Tryz.results144, go_sem, ↓reduceIte, reduceCtorEq, nA, nB, nC, nD, nE, nF]
 exact ⟨_, _, Weak.refl _, Hp.le.refl _, rfl, rfl⟩
theorem c_filtered (s : ByteArray) (h : Hp) : ACalls Tryz.prog 143 [.v (.string s), .v (.slice none 0 0)] h (fun r h' => r = .v (.string s) ∧ h' = h) := by
 refine gE Tryz.func143 rfl (by kernel_rfl) 58 rfl fun c => ?_
 (repeat (first | refine gO rfl ?_ | ((first | refine gM zM20 ?_ | (with_reducible refine wM ?_ ?_) | ((with_reducible refine xR ?_); refine uE 5 zM20 zPLE zPLP 60 rfl (by kernel_rfl) ?_)) <;> ((try with_reducible intro K1 hK1); simp only [go_sem, ↓reduceIte, reduceCtorEq, nA, nB, nC, nD, nE, nF, Int.reduceBEq, Int.reduceTMod, Int.reduceTDiv, Int.reduceMul, Int.reduceBNe, Int.reduceLT, Int.reduceLE, Int.reduceAdd, Int.reduceSub, Int.reduceNeg, decide_true, decide_false, Bool.true_and, Bool.false_and, Bool.and_true, Bool.and_false, Bool.or_false, Bool.or_true, Bool.true_or, Bool.false_or, Bool.not_true, Bool.not_false, true_implies, false_implies, true_and, and_true, Int.reduceToNat] <;> and_intros <;> first | (apply hK1; clear hK1 K1) | (intros; first | omega | decide) | skip)) | (refine awp_cond (t := _) rfl (fun hq => ?_) (fun hq => ?_) <;> first | (exact absurd hq (by decide)) | (cases hq; done) | (clear hq)) | (refine awp_un 8 ?_) | (with_reducible exact rfl) | (with_reducible exact trivial) | ((with_reducible show uside _); first | exact True.intro | exact rfl) | ((with_reducible show opS _ _); exact True.intro) | (refine ⟨AV.v (.bool true), rfl, hK1 _ ?_⟩; clear hK1 K1)))
 simp only [Tryz.results143, go_sem, ↓reduceIte, reduceCtorEq, nA, nB, nC, nD, nE, nF]
 exact ⟨_, _, Weak.refl _, Hp.le.refl _, rfl, rfl⟩
abbrev zPME : List Nat := [0, 1, 3, 4]
abbrev zPMP : List (Nat × List Nat × List Nat) := [(2, [4], []), (5, [], []), (6, [], [7])]
abbrev zPNE : List Nat := [0, 1, 2, 3, 4, 5, 6, 7, 8, 9]
abbrev zPNP : List (Nat × List Nat × List Nat) := [(10, [], [11, 12]), (13, [], [])]
abbrev zPOE : List Nat := [0, 1, 2, 3, 4, 5, 6, 7, 8, 9, 10, 11, 12, 13]
abbrev zPOP : List (Nat × List Nat × List Nat) := [(14, [], [])]
attribute [go_sem] zPME zPMP zPNE zPNP zPOE zPOP
def s5 : ByteArray := ⟨#[53]⟩
def bdP (b k : Nat) : AO := .obj 132 [.row 6 [fC] none, .v (.slice none 0 0), .ptr b 2, .arr 1 k 1, .v (.int .i64 0)]
def h5 (h : Hp) (b k : Nat) : Hp := ⟨upd h.H b (some (bdP b k)), upd h.T k (some (.buf 5 (rowB [53])))⟩
section
variable {P : Program} {c : Cx} {Q : Exit → St → Prop}
def OpsL (P : Program) (c : Cx) (Q : Exit → St → Prop) : List Oper → St → Prop
 | [], s => Q .normal s
 | o :: r, s => o.guard = none ∧ Aop P c o s (OpsL P c Q r)
theorem awp_opsL {id : Nat} {ops : Array Oper} {s : St} (h : OpsL P c Q ops.toList s) : Awp P c (.region id ops false) Q s := by
 have hg : ∀ (l : List Oper) (s : St), OpsL P c Q l s → ∀ a w, In c s a w → wpList P ops (fun e a' w' => ∃ s', Q e s' ∧ In c s' a' w') l a w := by
  intro l
  induction l with
  | nil => intro s h a w hi; exact ⟨s, h, hi⟩
  | cons o r ih =>
   intro s h a w hi
   have hw : Region.wanted o (yielded ops a.tmps) = true := by simp [Region.wanted, h.1]
   unfold wpList
   rw [if_pos hw]
   exact .inl (h.2 a w hi _ _ fun s' a' w' hs hi' => ih s' hs a' w' hi')
 intro a w hi
 exact wp_region_list (hg _ s h a w hi)
end
open Go
set_option linter.unusedVariables false
set_option linter.unusedSimpArgs false
section
variable {α : Type} (cf : α → α → Int)
def insR : List α → α → List α
  | [], x => [x]
  | y :: r, x => if cf x y < 0 then y :: insR r x else x :: y :: r
def insS (xs : List α) : List α := xs.foldl (insR cf) []
def sortI (xs : List α) : List α := (insS cf xs).reverse
end
open Go
set_option linter.unusedVariables false
set_option linter.unusedSimpArgs false
abbrev Kp := ByteArray × Int × Bool × Int × Int × Int
def cmpI (x y : Int) : Int := if x < y then -1 else if y < x then 1 else 0
def cmpK (rule : Int) (a b : Kp) : Int :=
  if (if rule = 2 then cmpI a.2.2.2.2.2 b.2.2.2.2.2 else if rule = 3 then cmpI a.2.2.2.1 b.2.2.2.1 else if rule = 4 then cmpI b.2.1 a.2.1 else 0) = 0 then cmpI a.2.2.2.2.1 b.2.2.2.2.1
  else if rule = 2 then cmpI a.2.2.2.2.2 b.2.2.2.2.2 else if rule = 3 then cmpI a.2.2.2.1 b.2.2.2.1 else if rule = 4 then cmpI b.2.1 a.2.1 else 0
open Nat renaming reduceAdd → nA, reduceSub → nB, reduceMul → nC, reduceLT → nD, reduceLeDiff → nE, reduceEqDiff → nF, reduceMod → nG, reduceDiv → nH, reducePow → nI
set_option maxRecDepth 100000
set_option maxHeartbeats 8000000
abbrev zPPE : List Nat := [0, 1, 2, 3, 4, 5, 6]
abbrev zPPP : List (Nat × List Nat × List Nat) := []
attribute [go_sem] zPPE zPPP
def orderL (rule : Int) (L : List Kp) : List Kp := sortI (cmpK rule) (L.filter fun x => !x.2.2.1)
def overL (item : ByteArray) : List Kp → Int → Int
  | [], o => o
  | x :: l, o => overL item l (if x.1 = item then o else o + x.2.1)
def goL (item : ByteArray) : List Kp → Int → List Kp × Int
  | [], o => ([], o)
  | x :: l, o => if o ≤ 0 then ([], o) else if x.1 = item then goL item l o else (x :: (goL item l (o - x.2.1)).1, (goL item l (o - x.2.1)).2)
def goingL (item : ByteArray) (bytes room rule : Int) (L : List Kp) : List Kp × Int := goL item (orderL rule L) (overL item L (bytes - room))
def newK (item : ByteArray) (bytes now : Int) : Kp := (item, bytes, false, now + 1, now + 1, 1)
def askF (t : Int) (x : Kp) : Kp := (x.1, x.2.1, x.2.2.1, x.2.2.2.1, t, x.2.2.2.2.2 + 1)
def setB (b : Int) (x : Kp) : Kp := (x.1, b, x.2.2.1, x.2.2.2.1, x.2.2.2.2.1, x.2.2.2.2.2)
def hasL (item : ByteArray) (L : List Kp) : Bool := L.any fun x => x.1 == item
def atK (item : ByteArray) (f : Kp → Kp) (L : List Kp) : List Kp := L.map fun x => if x.1 = item then f x else x
def leftL (gone L : List Kp) : List Kp := L.filter fun x => !gone.any fun y => y.1 == x.1
def putL (room rule now : Int) (L : List Kp) (item : ByteArray) (bytes : Int) : Option (List Kp × List Kp) :=
  if (goingL item bytes room rule L).2 ≤ 0 then some (if hasL item L then atK item (fun x => askF (now + 1) (setB bytes x)) (leftL (goingL item bytes room rule L).1 L) else leftL (goingL item bytes room rule L).1 L ++ [newK item bytes now], (goingL item bytes room rule L).1) else none
theorem leftL_sub {gone L : List Kp} {x : Kp} (h : x ∈ leftL gone L) : x ∈ L := (List.mem_filter.1 h).1
theorem g_nan (x : Int) (h : Hp) : ACalls Tryz.prog 157 [.v (.int .i64 x)] h (fun r h' => r = .v (.bool false) ∧ h' = h) := by
 refine gE Tryz.func157 rfl (by kernel_rfl) 5 rfl fun c => ?_
 (repeat (first | refine gO rfl ?_ | (refine gR fun K1 hK1 => ?_; simp only [go_sem, ↓reduceIte, reduceCtorEq, nA, nB, nC, nD, nE, nF] <;> and_intros <;> first | (apply hK1; clear hK1 K1) | (intros; first | omega | decide | (simp_all <;> omega)) | skip)))
 simp only [Tryz.results157, go_sem, ↓reduceIte, reduceCtorEq, nA, nB, nC, nD, nE, nF]
 exact ⟨_, _, Weak.refl _, Hp.le.refl _, by simp, rfl⟩
theorem g_cmpI (x y : Int) (h : Hp) : ACalls Tryz.prog 135 [.v (.int .i64 x), .v (.int .i64 y)] h (fun r h' => r = .v (.int .i64 (cmpI x y)) ∧ h' = h) := by
 have n1 := g_nan x h
 have n2 := g_nan y h
 refine gE Tryz.func135 rfl (by kernel_rfl) 18 rfl fun c => ?_
 (repeat (first | refine gO rfl ?_ | (refine gR fun K1 hK1 => ?_; simp only [go_sem, ↓reduceIte, reduceCtorEq, nA, nB, nC, nD, nE, nF] <;> and_intros <;> first | (apply hK1; clear hK1 K1) | (intros; first | omega | decide | (simp_all <;> omega)) | skip)))
 refine n1.mono ?_; rintro _ hz ⟨rfl, hh⟩; apply hK1; clear hK1 K1; rw [hh]; clear hh hz
 (repeat (first | refine gO rfl ?_ | (refine gR fun K1 hK1 => ?_; simp only [go_sem, ↓reduceIte, reduceCtorEq, nA, nB, nC, nD, nE, nF] <;> and_intros <;> first | (apply hK1; clear hK1 K1) | (intros; first | omega | decide) | skip)))
 refine n2.mono ?_; rintro _ hz ⟨rfl, hh⟩; apply hK1; clear hK1 K1; rw [hh]; clear hh hz
 (repeat (first | refine gO rfl ?_ | (refine gR fun K1 hK1 => ?_; simp only [go_sem, ↓reduceIte, reduceCtorEq, nA, nB, nC, nD, nE, nF] <;> and_intros <;> first | (apply hK1; clear hK1 K1) | (intros; first | omega | decide) | skip)))
 refine awp_cond (t := _) rfl (fun h9 => by cases h9) (fun _ => ?_)
 (repeat (first | refine gO rfl ?_ | (refine gR fun K1 hK1 => ?_; simp only [go_sem, ↓reduceIte, reduceCtorEq, nA, nB, nC, nD, nE, nF] <;> and_intros <;> first | (apply hK1; clear hK1 K1) | (intros; first | omega | decide) | skip)))
 refine awp_cond (t := _) rfl (fun h9 => by cases h9) (fun _ => ?_)
 (repeat (first | refine gO rfl ?_ | (refine gR fun K1 hK1 => ?_; simp only [go_sem, ↓reduceIte, reduceCtorEq, nA, nB, nC, nD, nE, nF] <;> and_intros <;> first | (apply hK1; clear hK1 K1) | (intros; first | omega | decide) | skip)))
 refine awp_cond (t := _) rfl (fun h1 => ?_) (fun h1 => ?_)
 ·simp only [decide_eq_true_eq] at h1
  (repeat (first | refine gO rfl ?_ | (refine gR fun K1 hK1 => ?_; simp only [go_sem, ↓reduceIte, reduceCtorEq, nA, nB, nC, nD, nE, nF] <;> and_intros <;> first | (apply hK1; clear hK1 K1) | (intros; first | omega | decide) | skip)))
  simp only [Tryz.results135, go_sem, ↓reduceIte, reduceCtorEq, nA, nB, nC, nD, nE, nF]
  exact ⟨_, _, Weak.refl _, Hp.le.refl _, by rw [cmpI, if_pos h1], rfl⟩
 ·simp only [decide_eq_false_iff_not] at h1
  (repeat (first | refine gO rfl ?_ | (refine gR fun K1 hK1 => ?_; simp only [go_sem, ↓reduceIte, reduceCtorEq, nA, nB, nC, nD, nE, nF] <;> and_intros <;> first | (apply hK1; clear hK1 K1) | (intros; first | omega | decide) | skip)))
  refine awp_cond (t := _) rfl (fun h2 => ?_) (fun h2 => ?_)
  ·simp only [decide_eq_true_eq] at h2
   (repeat (first | refine gO rfl ?_ | (refine gR fun K1 hK1 => ?_; simp only [go_sem, ↓reduceIte, reduceCtorEq, nA, nB, nC, nD, nE, nF] <;> and_intros <;> first | (apply hK1; clear hK1 K1) | (intros; first | omega | decide) | skip)))
   simp only [Tryz.results135, go_sem, ↓reduceIte, reduceCtorEq, nA, nB, nC, nD, nE, nF]
   exact ⟨_, _, Weak.refl _, Hp.le.refl _, by rw [cmpI, if_neg h1, if_pos (by omega)], rfl⟩
  ·simp only [decide_eq_false_iff_not] at h2
   (repeat (first | refine gO rfl ?_ | (refine gR fun K1 hK1 => ?_; simp only [go_sem, ↓reduceIte, reduceCtorEq, nA, nB, nC, nD, nE, nF] <;> and_intros <;> first | (apply hK1; clear hK1 K1) | (intros; first | omega | decide) | skip)))
   simp only [Tryz.results135, go_sem, ↓reduceIte, reduceCtorEq, nA, nB, nC, nD, nE, nF]
   exact ⟨_, _, Weak.refl _, Hp.le.refl _, by rw [cmpI, if_neg h1, if_neg (by omega)], rfl⟩
abbrev zPQE : List Nat := [0, 1, 2, 3, 4, 5, 6, 7]
abbrev zPQP : List (Nat × List Nat × List Nat) := [(8, [], [9])]
abbrev zPRE : List Nat := [0, 1, 2, 3, 4, 5, 6, 7]
abbrev zPRP : List (Nat × List Nat × List Nat) := [(8, [], [9])]
abbrev zPSE : List Nat := [0, 1, 2, 3, 4, 5, 6, 7]
abbrev zPSP : List (Nat × List Nat × List Nat) := [(8, [], [9])]
abbrev zPTE : List Nat := [0, 1, 2, 3, 4, 5, 6, 7, 8]
abbrev zPTP : List (Nat × List Nat × List Nat) := [(9, [], [10]), (11, [], [12])]
attribute [go_sem] zPQE zPQP zPRE zPRP zPSE zPSP zPTE zPTP
def encJ (x : Int) : List AV := [.v (.int .i64 x)]
def orJ : List Int → Int
 | [] => 0
 | x :: l => if x = 0 then orJ l else x
theorem orJ_at (l : List Int) (j : Nat) (h : j < l.length) (h0 : ∀ i, i < j → l.getD i 0 = 0) (hn : l.getD j 0 ≠ 0) : orJ l = l.getD j 0 := by
 induction l generalizing j with
 | nil => simp at h
 | cons x l ih =>
  cases j with
  | zero => rw [orJ, if_neg (by simpa using hn)]; rfl
  | succ j =>
   have hx := h0 0 (by omega)
   simp only [List.getD_cons_zero] at hx
   rw [orJ, if_pos hx, List.getD_cons_succ]
   exact ih j (by simpa using h) (fun i hi => by simpa using h0 (i + 1) (by omega)) (by simpa using hn)
theorem orJ_zero (l : List Int) (h : ∀ i, i < l.length → l.getD i 0 = 0) : orJ l = 0 := by
 induction l with
 | nil => rfl
 | cons x l ih =>
  have hx := h 0 (by simp)
  simp only [List.getD_cons_zero] at hx
  rw [orJ, if_pos hx]
  exact ih fun i hi => by simpa using h (i + 1) (by simpa using hi)
theorem g_orK (l : List Int) (h : Hp) (hl : l.length ≤ 1000) : ACalls Tryz.prog 134 [.row 1 (l.map encJ) none] h (fun r h' => r = .v (.int .i64 (orJ l)) ∧ h' = h) := by
 refine gE Tryz.func134 rfl (by kernel_rfl) 17 rfl fun c => ?_
 (repeat (first | refine gO rfl ?_ | (refine gR fun K1 hK1 => ?_; simp only [go_sem, ↓reduceIte, reduceCtorEq, nA, nB, nC, nD, nE, nF] <;> and_intros <;> first | (apply hK1; clear hK1 K1) | (intros; first | omega | decide | (simp_all <;> omega)) | skip)))
 refine awp_loopC (rl false [3, 1, 2, 3, 9]) 0 (fun g s => ∃ j : Nat, g + j = l.length ∧ (∀ i, i < j → l.getD i 0 = 0) ∧
  s = ⟨((jnk 3 ((.v (.int .i64 0)) :: AV.junk :: AV.junk :: ((.row 1 (l.map encJ) none) :: (.v (.int .i64 l.length)) :: (.v (.int .i64 j)) :: (jnk 9 []))))), [], h⟩) l.length ⟨0, by omega, by omega, rfl⟩ ?_
 rintro g _ ⟨j, hj, h0, rfl⟩
 (repeat (first | refine gO rfl ?_ | (refine gR fun K1 hK1 => ?_; simp only [go_sem, ↓reduceIte, reduceCtorEq, nA, nB, nC, nD, nE, nF] <;> and_intros <;> first | (apply hK1; clear hK1 K1) | (intros; first | omega | decide | (simp_all <;> omega)) | skip)))
 refine awp_cond (t := _) rfl (fun h3 => ?_) (fun h3 => ?_)
 ·simp only [decide_eq_true_eq] at h3
  have hjl : j < l.length := by omega
  have hgx : (l.map encJ).getD j [] = [.v (.int .i64 (l.getD j 0))] := getD_enc encJ l j 0 hjl
  have hat := orJ_at l j hjl h0
  obtain ⟨x, hx⟩ : ∃ x, x = l.getD j 0 := ⟨_, rfl⟩
  rw [← hx] at hgx hat
  (repeat (first | refine gO rfl ?_ | (refine gR fun K1 hK1 => ?_; simp only [go_sem, ↓reduceIte, reduceCtorEq, nA, nB, nC, nD, nE, nF, Int.toNat_natCast, hgx] <;> and_intros <;> first | (apply hK1; clear hK1 K1) | (intros; first | omega | decide | (simp_all <;> omega)) | skip)))
  refine awp_cond (t := _) rfl (fun h4 => ?_) (fun h4 => ?_)
  ·have h4' : x ≠ 0 := by simpa using h4
   (repeat (first | refine gO rfl ?_ | (refine gR fun K1 hK1 => ?_; simp only [go_sem, ↓reduceIte, reduceCtorEq, nA, nB, nC, nD, nE, nF] <;> and_intros <;> first | (apply hK1; clear hK1 K1) | (intros; first | omega | decide | (simp_all <;> omega)) | skip)))
   simp only [Tryz.results134, go_sem, ↓reduceIte, reduceCtorEq, nA, nB, nC, nD, nE, nF]
   exact ⟨_, _, Weak.refl _, Hp.le.refl _, by rw [hat h4'], rfl⟩
  ·have h4' : x = 0 := by simpa using h4
   (repeat (first | refine gO rfl ?_ | (refine gR fun K1 hK1 => ?_; simp only [go_sem, ↓reduceIte, reduceCtorEq, nA, nB, nC, nD, nE, nF] <;> and_intros <;> first | (apply hK1; clear hK1 K1) | (intros; first | omega | decide | (simp_all <;> omega)) | skip)))
   exact ⟨g - 1, by omega, j + 1, by omega, fun i hi => by
    by_cases e : i = j
    ·rw [e, ← hx]; exact h4'
    ·exact h0 i (by omega), rfl⟩
 ·simp only [decide_eq_false_iff_not] at h3
  have hjl : j = l.length := by omega
  subst hjl
  (repeat (first | refine gO rfl ?_ | (refine gR fun K1 hK1 => ?_; simp only [go_sem, ↓reduceIte, reduceCtorEq, nA, nB, nC, nD, nE, nF] <;> and_intros <;> first | (apply hK1; clear hK1 K1) | (intros; first | omega | decide | (simp_all <;> omega)) | skip)))
  simp only [Tryz.results134, go_sem, ↓reduceIte, reduceCtorEq, nA, nB, nC, nD, nE, nF]
  exact ⟨_, _, Weak.refl _, Hp.le.refl _, by rw [orJ_zero l h0], rfl⟩
theorem g_or2 (x y : Int) (h : Hp) : ACalls Tryz.prog 134 [.row 1 [[.v (.int .i64 x)], [.v (.int .i64 y)]] none] h (fun r h' => r = .v (.int .i64 (if x = 0 then y else x)) ∧ h' = h) := by
 refine (g_orK [x, y] h (by simp)).mono ?_
 rintro _ _ ⟨rfl, rfl⟩
 refine ⟨?_, rfl⟩
 by_cases e : x = 0
 ·rw [orJ, if_pos e, if_pos e, orJ]
  by_cases e2 : y = 0
  ·rw [if_pos e2, orJ, e2]
  ·rw [if_neg e2]
 ·rw [orJ, if_neg e, if_neg e]
abbrev zPUE : List Nat := [0, 1, 2, 3, 4, 5, 6, 7, 8, 9, 10, 11, 12, 13]
abbrev zPUP : List (Nat × List Nat × List Nat) := [(14, [], [15, 16])]
abbrev zPVE : List Nat := [0, 1, 2, 3, 4, 5, 6, 7, 8, 9, 10, 11, 12, 13, 14]
abbrev zPVP : List (Nat × List Nat × List Nat) := [(15, [], [16]), (17, [], [])]
abbrev zPWE : List Nat := [0, 1, 2, 3, 4, 5, 6, 7, 8, 9, 10, 11, 12]
abbrev zPWP : List (Nat × List Nat × List Nat) := [(13, [], [14, 15, 16])]
attribute [go_sem] zPUE zPUP zPVE zPVP zPWE zPWP
abbrev zPXE : List Nat := [0, 1, 2, 3, 4, 5, 6, 7, 8, 9, 10, 11, 12, 13]
abbrev zPXP : List (Nat × List Nat × List Nat) := []
attribute [go_sem] zPXE zPXP
def OkL (now : Int) (L : List Kp) : Prop := ∀ x ∈ L, x.2.1 = 1 ∧ 0 ≤ x.2.2.2.2.2 ∧ x.2.2.2.2.2 ≤ now
theorem OkL.put {now : Int} {L L' g : List Kp} (h : OkL now L) (h0 : 0 ≤ now) {room rule : Int} {s : ByteArray} (hp : putL room rule now L s 1 = some (L', g)) : OkL (now + 1) L' := by
  unfold putL at hp
  split at hp
  · simp only [Option.some.injEq, Prod.mk.injEq] at hp
    obtain ⟨rfl, _⟩ := hp
    split
    · intro x hx
      obtain ⟨y, hy, rfl⟩ := List.mem_map.1 hx
      have := h y (leftL_sub hy)
      split
      · exact ⟨rfl, by show 0 ≤ y.2.2.2.2.2 + 1 ∧ y.2.2.2.2.2 + 1 ≤ now + 1; omega⟩
      · exact ⟨this.1, by omega⟩
    · intro x hx
      rcases List.mem_append.1 hx with hx | hx
      · have := h x (leftL_sub hx)
        exact ⟨this.1, by omega⟩
      · rw [List.mem_singleton] at hx
        subst hx
        exact ⟨rfl, by show (0 : Int) ≤ 1 ∧ (1 : Int) ≤ now + 1; omega⟩
  · cases hp
abbrev zPYE : List Nat := [0, 1, 2, 3, 4, 5, 6, 7, 8, 9, 10, 11]
abbrev zPYP : List (Nat × List Nat × List Nat) := []
abbrev zPZE : List Nat := [0, 1, 2, 3]
abbrev zPZP : List (Nat × List Nat × List Nat) := [(4, [0], [5]), (6, [], [7])]
abbrev zP10E : List Nat := [0, 1, 2, 3, 4, 5]
abbrev zP10P : List (Nat × List Nat × List Nat) := [(6, [4], [7]), (8, [], [9, 10]), (11, [], [])]
abbrev zP11E : List Nat := [0, 1, 2, 3, 4, 5, 6, 7, 8, 9, 10]
abbrev zP11P : List (Nat × List Nat × List Nat) := []
abbrev zP12E : List Nat := [0, 1, 2, 3, 4, 5, 6, 7, 8, 9, 10, 11, 12, 13, 14, 15, 16]
abbrev zP12P : List (Nat × List Nat × List Nat) := [(17, [], [18, 19]), (20, [], [])]
abbrev zP13E : List Nat := [0, 1, 2, 3, 4, 5, 6, 7, 8, 9, 10, 11, 12, 13, 14, 15, 16]
abbrev zP13P : List (Nat × List Nat × List Nat) := [(17, [], [])]
abbrev zP14E : List Nat := [0, 1, 2, 3, 4, 5, 6, 7, 8]
abbrev zP14P : List (Nat × List Nat × List Nat) := [(9, [3], [10, 11])]
abbrev zP15E : List Nat := [0, 1, 2, 3, 4, 5, 6, 7, 8, 9, 10]
abbrev zP15P : List (Nat × List Nat × List Nat) := []
attribute [go_sem] zPYE zPYP zPZE zPZP zP10E zP10P zP11E zP11P zP12E zP12P zP13E zP13P zP14E zP14P zP15E zP15P
abbrev zP16E : List Nat := [0, 1, 2, 3, 4, 5, 6, 7, 8, 9, 10, 11, 12, 13, 14]
abbrev zP16P : List (Nat × List Nat × List Nat) := []
attribute [go_sem] zP16E zP16P
theorem splitB_one {c : UInt8} {l : List UInt8} (h : (splitB c l).length = 1) : splitB c l = [l] := by
 by_cases h1 : Lib.indexByte l c < 0
 ·exact splitB_none c h1
 ·exfalso
  obtain ⟨h2, h3⟩ := splitB_some c (l := l) (i := (Lib.indexByte l c).toNat) (by omega)
  rw [h3, List.length_cons] at h
  have h4 : (splitB c (l.drop ((Lib.indexByte l c).toNat + 1))).length = 0 := by omega
  exact splitB_ne c _ (List.eq_nil_of_length_eq_zero h4)
theorem a_count (l : List UInt8) (c : UInt8) (h : Hp) : ACalls Tryz.prog 99 [.v (.string (bsOf l)), .v (.string ⟨#[c]⟩)] h (fun r h' => r = .v (.int .i64 (Lib.countByte l c)) ∧ h' = h) :=
 acalls_pure (by kernel_rfl) [.string (bsOf l), .string ⟨#[c]⟩] rfl (fun w => (Tryz.strings_Count_one (bsOf l) c w).mono fun e w' ⟨h1, h2⟩ => ⟨h1, by subst h2; exact bel_id _⟩) h
theorem a_index (l : List UInt8) (c : UInt8) (h : Hp) : ACalls Tryz.prog 69 [.v (.string (bsOf l)), .v (.string ⟨#[c]⟩)] h (fun r h' => r = .v (.int .i64 (Lib.indexByte l c)) ∧ h' = h) :=
 acalls_pure (by kernel_rfl) [.string (bsOf l), .string ⟨#[c]⟩] rfl (fun w => (Tryz.strings_Index_one (bsOf l) c w).mono fun e w' ⟨h1, h2⟩ => ⟨h1, by subst h2; exact bel_id _⟩) h
def encL1 (x : List UInt8) : List AV := [.v (.string (bsOf x))]
theorem g_genSplit (l : List UInt8) (cb : UInt8) (hl : l.length ≤ 100000) (h : Hp) : ACalls Tryz.prog 85 [.v (.string (bsOf l)), .v (.string ⟨#[cb]⟩), .v (.int .i64 0), .v (.int .i64 (-1))] h (fun r h' => r = .row 1 ((splitB cb l).map encL1) none ∧ h' = h) := by
 refine ACalls.frz ?_ (fun y hy => by obtain ⟨x, _, rfl⟩ := List.mem_map.1 hy; rfl)
 have hct := a_count l cb h
 have hcl : Lib.countByte l cb ≤ l.length := List.count_le_length
 have hsl := splitB_len cb l
 have hsz : (bsOf l).size = l.length := size_bs _
 have e1 : ((⟨#[cb]⟩ : ByteArray) == ⟨#[]⟩) = false := by rw [ba_beq, decide_eq_false_iff_not]; intro e; have := congrArg ByteArray.size e; cases this
 generalize hn : Lib.countByte l cb = n at *
 have e2 : min ((n : Int) + 1) ((l.length : Int) + 1) = (n : Int) + 1 := by omega
 refine gE Tryz.func85 rfl (by kernel_rfl) 62 rfl fun c => ?_
 (repeat (first | refine gO rfl ?_ | (refine gM zM22 fun K1 hK1 => ?_; simp only [go_sem, ↓reduceIte, reduceCtorEq, nA, nB, nC, nD, nE, nF, Int.reduceBEq, Int.reduceTMod, Int.reduceTDiv, Int.reduceMul, Int.reduceBNe, Int.reduceLT, Int.reduceLE, Int.reduceAdd, Int.reduceSub, Int.reduceNeg, decide_true, decide_false, Bool.true_and, Bool.false_and, Bool.and_true, Bool.and_false, Bool.or_false, Bool.or_true, Bool.true_or, Bool.false_or, Bool.not_true, Bool.not_false, true_implies, false_implies, true_and, and_true, Int.reduceToNat, e1, hsz, e2] <;> and_intros <;> first | (apply hK1; clear hK1 K1) | (intros; first | omega | decide) | skip) | (refine awp_cond (t := _) rfl (fun hq => ?_) (fun hq => ?_) <;> first | (exact absurd hq (by decide)) | (cases hq; done) | (clear hq)) | (refine awp_un 8 ?_) | (with_reducible exact rfl) | (with_reducible exact trivial) | ((with_reducible show uside _); first | exact True.intro | exact rfl) | ((with_reducible show opS _ _); exact True.intro) | (refine ⟨AV.v (.bool true), rfl, hK1 _ ?_⟩; clear hK1 K1) | (refine (hct).mono ?_; rintro _ hz ⟨rfl, hh⟩; (first | (refine hK1 _ ?_) | (refine ⟨rfl, hK1 _ ?_⟩)); clear hK1 K1; rw [hh]; clear hh hz)))
 intro k hk
 refine hK1 _ ?_; clear hK1 K1
 have hnt : ((n : Int) + 1).toNat = n + 1 := by omega
 (repeat (first | refine gO rfl ?_ | (refine gM zM22 fun K1 hK1 => ?_; simp only [go_sem, ↓reduceIte, reduceCtorEq, nA, nB, nC, nD, nE, nF, hnt] <;> and_intros <;> first | (apply hK1; clear hK1 K1) | (intros; first | omega | decide | (simp_all <;> omega)) | skip)))
 have hcons : ∀ x, encL1 x = [.v (.string (bsOf x))] := fun _ => rfl
 refine awp_loopC (rl false [0, 4, 5, 2, 55]) 0 (fun g s => ∃ (i : Nat) (rest : List UInt8) (P : List (List UInt8)), g + i = n ∧ P.length = i ∧ splitB cb l = P ++ splitB cb rest ∧ rest.length ≤ l.length ∧
  s = ⟨((.v (.string (bsOf rest))) :: (.v (.string ⟨#[cb]⟩)) :: (.v (.int .i64 0)) :: (.v (.int .i64 n)) :: (jnk 5 ((.arr 1 k (n + 1)) :: (.v (.int .i64 i)) :: (jnk 55 [])))), [], ⟨h.H, upd h.T k (some (.cont 1 (P.map encL1 ++ List.replicate (n + 1 - i) [.v (.string ⟨#[]⟩)])))⟩⟩) n ⟨0, l, [], by omega, rfl, rfl, Nat.le_refl _, rfl⟩ ?_
 rintro g _ ⟨i, rest, P, hg, hP, hsp, hrl, rfl⟩
 have hix := a_index rest cb
 have hlen := congrArg List.length hsp
 rw [List.length_append, hsl, hP] at hlen
 (repeat (first | refine gO rfl ?_ | (refine gM zM22 fun K1 hK1 => ?_; simp only [go_sem, ↓reduceIte, reduceCtorEq, nA, nB, nC, nD, nE, nF] <;> and_intros <;> first | (apply hK1; clear hK1 K1) | (intros; first | omega | decide | (simp_all <;> omega)) | skip)))
 refine awp_cond (t := _) rfl (fun h5 => ?_) (fun h5 => ?_)
 ·simp only [decide_eq_true_eq] at h5
  (repeat (first | refine gO rfl ?_ | (refine gM zM22 fun K1 hK1 => ?_; simp only [go_sem, ↓reduceIte, reduceCtorEq, nA, nB, nC, nD, nE, nF] <;> and_intros <;> first | (apply hK1; clear hK1 K1) | (intros; first | omega | decide | (simp_all <;> omega)) | skip)))
  refine (hix _).mono ?_; rintro _ hz ⟨rfl, hh⟩; apply hK1; clear hK1 K1; rw [hh]; clear hh hz
  (repeat (first | refine gO rfl ?_ | (refine gM zM22 fun K1 hK1 => ?_; simp only [go_sem, ↓reduceIte, reduceCtorEq, nA, nB, nC, nD, nE, nF] <;> and_intros <;> first | (apply hK1; clear hK1 K1) | (intros; first | omega | decide | (simp_all <;> omega)) | skip)))
  refine awp_cond (t := _) rfl (fun h6 => ?_) (fun h6 => ?_)
  ·simp only [decide_eq_true_eq] at h6
   exfalso
   have := splitB_none cb h6
   rw [this] at hlen
   simp only [List.length_cons, List.length_nil] at hlen
   omega
  ·simp only [decide_eq_false_iff_not] at h6
   obtain ⟨m, hm⟩ : ∃ m : Nat, Lib.indexByte rest cb = (m : Int) := ⟨(Lib.indexByte rest cb).toNat, by omega⟩
   obtain ⟨hm1, hm2⟩ := splitB_some cb hm
   have hrs : (bsOf rest).size = rest.length := size_bs _
   have hcs : (⟨#[cb]⟩ : ByteArray).size = 1 := rfl
   have hx1 : (bsOf rest).extract 0 m = bsOf (rest.take m) := bsOf_take _ _
   have hx2 : (bsOf rest).extract (m + 1) (bsOf rest).size = bsOf (rest.drop (m + 1)) := by rw [size_bs, bsOf_drop _ _ _ rfl]
   have hx2' : (bsOf rest).extract (m + 1) rest.length = bsOf (rest.drop (m + 1)) := bsOf_drop _ _ _ rfl
   have hz : Int.toNat 0 = 0 := rfl
   have hm0 : (m : Int) + 0 = (m : Int) := by omega
   have hmn : ((m : Int) + ((1 : Nat) : Int)).toNat = m + 1 := by omega
   have hcl2 : (P.map encL1 ++ List.replicate (n + 1 - i) [AV.v (.string ⟨#[]⟩)]).length = n + 1 := by simp only [List.length_append, List.length_map, List.length_replicate]; omega
   have hgd : (P.map encL1 ++ List.replicate (n + 1 - i) [AV.v (.string ⟨#[]⟩)]).getD i [] = [AV.v (.string ⟨#[]⟩)] := by
    rw [List.getD_eq_getElem?_getD, List.getElem?_append_right (by rw [List.length_map]; omega), List.length_map, hP, Nat.sub_self, List.getElem?_replicate, if_pos (by omega)]; rfl
   have hset : (P.map encL1 ++ List.replicate (n + 1 - i) [AV.v (.string ⟨#[]⟩)]).set i [.v (.string (bsOf (rest.take m)))] = (P ++ [rest.take m]).map encL1 ++ List.replicate (n + 1 - (i + 1)) [AV.v (.string ⟨#[]⟩)] := by
    have e : n + 1 - i = (n + 1 - (i + 1)) + 1 := by omega
    rw [List.set_append_right _ _ (by rw [List.length_map]; omega), List.length_map, hP, Nat.sub_self, e, List.replicate_succ, List.set_cons_zero, List.map_append, List.append_assoc]
    rfl
   have hdr : List.drop 1 [AV.v (.string ⟨#[]⟩)] = [] := rfl
   rw [hm]
   (repeat (first | refine gO rfl ?_ | (refine gM zM22 fun K1 hK1 => ?_; simp only [go_sem, ↓reduceIte, reduceCtorEq, nA, nB, nC, nD, nE, nF, hm0, hmn, hrs, hcs, hz, hx1, hx2, hx2', Int.toNat_natCast, upd_same, hcl2, Option.toList_none, Option.toList_some, List.append_eq, List.nil_append, List.cons_append, uside] <;> and_intros <;> first | (apply hK1; clear hK1 K1) | (intros; first | omega | decide | (simp_all <;> omega)) | skip)))
   refine ⟨g - 1, by omega, i + 1, rest.drop (m + 1), P ++ [rest.take m], by omega, by rw [List.length_append, hP]; rfl, by rw [hsp, hm2, List.append_assoc]; rfl, by rw [List.length_drop]; omega, ?_⟩
   rw [hgd, hdr, hset]
   rfl
 ·simp only [decide_eq_false_iff_not] at h5
  have hin : i = n := by omega
  subst hin
  have h1 := splitB_one (c := cb) (l := rest) (by omega)
  have e9 : i + 1 - i = 1 := by omega
  have hi1 : ((i : Int) + 1).toNat = i + 1 := by omega
  have hcl2 : (P.map encL1 ++ List.replicate (i + 1 - i) [AV.v (.string ⟨#[]⟩)]).length = i + 1 := by simp only [List.length_append, List.length_map, List.length_replicate]; omega
  have hgd : (P.map encL1 ++ List.replicate (i + 1 - i) [AV.v (.string ⟨#[]⟩)]).getD i [] = [AV.v (.string ⟨#[]⟩)] := by
   rw [List.getD_eq_getElem?_getD, List.getElem?_append_right (by rw [List.length_map]; omega), List.length_map, hP, Nat.sub_self, List.getElem?_replicate, if_pos (by omega)]; rfl
  have hset : (P.map encL1 ++ List.replicate (i + 1 - i) [AV.v (.string ⟨#[]⟩)]).set i [.v (.string (bsOf rest))] = (splitB cb l).map encL1 := by
   rw [hsp, h1, List.set_append_right _ _ (by rw [List.length_map]; omega), List.length_map, hP, Nat.sub_self, e9, List.map_append]
   rfl
  have hdr : List.drop 1 [AV.v (.string ⟨#[]⟩)] = [] := rfl
  have hlm : ((splitB cb l).map encL1).length = i + 1 := by rw [List.length_map, hsl]
  (repeat (first | refine gO rfl ?_ | (refine gM zM22 fun K1 hK1 => ?_; simp only [go_sem, ↓reduceIte, reduceCtorEq, nA, nB, nC, nD, nE, nF, upd_same, Int.toNat_natCast, hcl2, hgd, hset, hdr, hi1, hlm, Option.toList_none, Option.toList_some, List.append_eq, List.nil_append, List.cons_append, uside] <;> and_intros <;> first | (apply hK1; clear hK1 K1) | (intros; first | omega | decide | (simp_all <;> omega)) | skip)))
  have htk : List.take (i + 1) ((splitB cb l).map encL1) = (splitB cb l).map encL1 := List.take_of_length_le (by rw [hlm]; exact Nat.le_refl _)
  intro q hq
  refine hK1 _ ?_; clear hK1 K1
  (repeat (first | refine gO rfl ?_ | (refine gM zM22 fun K1 hK1 => ?_; simp only [go_sem, ↓reduceIte, reduceCtorEq, nA, nB, nC, nD, nE, nF] <;> and_intros <;> first | (apply hK1; clear hK1 K1) | (intros; first | omega | decide | (simp_all <;> omega)) | skip)))
  simp only [Tryz.results85, go_sem, ↓reduceIte, reduceCtorEq, nA, nB, nC, nD, nE, nF]
  replace hk : h.T k = none := hk
  have hq2 : h.T q = none := by
   by_cases e : q = k
   ·rw [e, upd_same] at hq; cases hq
   ·rwa [upd_other _ _ e] at hq
  refine ⟨_, _, Weak.refl _, Hp.le.refl _, q, by rw [hsl], rfl, hq2, ?_, fun t ht => ?_⟩
  ·show upd _ q _ q = _
   rw [upd_same, htk]
  ·have tq : t ≠ q := by rintro rfl; exact ht hq2
   have tk : t ≠ k := by rintro rfl; exact ht hk
   show upd (upd h.T k none) q _ t = _
   rw [upd_other _ _ tq, upd_other _ _ tk]
theorem g_split (l : List UInt8) (cb : UInt8) (hl : l.length ≤ 100000) (h : Hp) : ACalls Tryz.prog 56 [.v (.string (bsOf l)), .v (.string ⟨#[cb]⟩)] h (fun r h' => r = .row 1 ((splitB cb l).map encL1) none ∧ h' = h) := by
 have h1 := g_genSplit l cb hl h
 refine gE Tryz.func56 rfl (by kernel_rfl) 6 rfl fun c => ?_
 (repeat (first | refine gO rfl ?_ | (refine gR fun K1 hK1 => ?_; simp only [go_sem, ↓reduceIte, reduceCtorEq, nA, nB, nC, nD, nE, nF] <;> and_intros <;> first | (apply hK1; clear hK1 K1) | (intros; first | omega | decide | (simp_all <;> omega)) | skip)))
 refine h1.mono ?_; rintro _ hz ⟨rfl, hh⟩; apply hK1; clear hK1 K1; rw [hh]; clear hh hz
 (repeat (first | refine gO rfl ?_ | (refine gR fun K1 hK1 => ?_; simp only [go_sem, ↓reduceIte, reduceCtorEq, nA, nB, nC, nD, nE, nF] <;> and_intros <;> first | (apply hK1; clear hK1 K1) | (intros; first | omega | decide | (simp_all <;> omega)) | skip)))
 simp only [Tryz.results56, go_sem, ↓reduceIte, reduceCtorEq, nA, nB, nC, nD, nE, nF]
 exact ⟨_, _, Weak.refl _, Hp.le.refl _, rfl, rfl⟩
def wordsP (f : Fo) (wide : Int) (ps : List (List Tok)) : List (List Tok) := (ps.filter fun w => !w.isEmpty).flatMap fun w => cutT f wide w []
theorem wordsP_app (f : Fo) (wide : Int) (ps : List (List Tok)) (w : List Tok) : wordsP f wide (ps ++ [w]) = wordsP f wide ps ++ if w = [] then [] else cutT f wide w [] := by
 unfold wordsP
 rw [List.filter_append, List.flatMap_append]
 congr 1
 cases w with
 | nil => rfl
 | cons x l => simp
theorem wordsP_len (f : Fo) (wide : Int) (ps : List (List Tok)) : (wordsP f wide ps).length ≤ 2 * ps.flatten.length := by
 induction ps with
 | nil => simp [wordsP]
 | cons w ps ih =>
  have h1 : wordsP f wide (w :: ps) = (if w = [] then [] else cutT f wide w []) ++ wordsP f wide ps := by
   unfold wordsP
   cases w with
   | nil => rfl
   | cons x l => simp
  rw [h1, List.length_append, List.flatten_cons, List.length_append]
  split
  ·simp only [List.length_nil]; omega
  ·rename_i hne
   have := cutT_len f wide w []
   have : 0 < w.length := List.length_pos_iff.2 hne
   omega
theorem row_piece (ps : List (List Tok)) (j : Nat) (hj : j < ps.length) : ((ps.map List.flatten).map encL1).getD j [] = encL1 ps[j].flatten := by
 rw [List.getD_eq_getElem?_getD, List.getElem?_map, List.getElem?_map, List.getElem?_eq_getElem hj]; rfl
theorem g_wordsOf (f : Fo) (kk : Option Nat) (ts : List Tok) (wide : Int) (hts : ∀ t ∈ ts, t ∈ toks) (hn : ts.length ≤ 10000) (hw : 1 ≤ wide ∧ wide ≤ 100000) (hg : Good f) (k0 : Nat) (h : Hp) (hT : h.T k0 = some (.glb tabU)) :
  ACalls Tryz.prog 77 [encFo f kk, .v (.string (bsOf ts.flatten)), .v (.int .i64 wide)] h
   (fun r h' => ∃ q, r = .row 2 ((wordsT f wide ts).map (encWd f)) (some q) ∧ h.T q = none ∧ h'.H = h.H ∧ ∀ k x, h.T k = some x → h'.T k = some x) := by
 have hfl : ∀ x, (encFo f x) = .agg [.v (.string f.key), .v (.int .i64 f.hi), .v (.int .i64 f.ot), .row 3 (f.ws.map encW) x] := fun _ => rfl
 have hf2 := flat_le2 ts hts
 have hsp := g_split ts.flatten 32 (by omega)
 rw [splitB_toks 32 sp_ok ts hts] at hsp
 have hml : (((splitT [32] ts).map List.flatten).map encL1).length = (splitT [32] ts).length := by rw [List.length_map, List.length_map]
 have hsl := splitT_len [32] ts
 have hwT : wordsT f wide ts = wordsP f wide (splitT [32] ts) := rfl
 refine gE Tryz.func77 rfl (by kernel_rfl) 23 rfl fun c => ?_
 (repeat (first | refine gO rfl ?_ | (refine gR fun K1 hK1 => ?_; simp only [go_sem, ↓reduceIte, reduceCtorEq, nA, nB, nC, nD, nE, nF, hfl] <;> and_intros <;> first | (apply hK1; clear hK1 K1) | (intros; first | omega | decide) | skip)))
 refine (hsp h).mono ?_; rintro _ hz ⟨rfl, hh⟩; apply hK1; clear hK1 K1; rw [hh]; clear hh hz
 (repeat (first | refine gO rfl ?_ | (refine gR fun K1 hK1 => ?_; simp only [go_sem, ↓reduceIte, reduceCtorEq, nA, nB, nC, nD, nE, nF, hml] <;> and_intros <;> first | (apply hK1; clear hK1 K1) | (intros; first | omega | decide) | skip)))
 refine awp_own 7 2 rfl ⟨rfl, rfl⟩ (fun q hq => ?_)
 replace hq : h.T q = none := hq
 have hkq : k0 ≠ q := by rintro rfl; rw [hT] at hq; cases hq
 refine awp_loopC (rl false [2, 2, 3, 1, 3, 3, 12]) 0 (fun g s => ∃ (j : Nat) (h1 : Hp), g + j = (splitT [32] ts).length ∧ h1.H = h.H ∧ (∀ k x, h.T k = some x → h1.T k = some x) ∧ h1.T q = some (.tail (wordsP f wide ((splitT [32] ts).take j)).length) ∧
  s = ⟨(AV.junk :: AV.junk :: ((.v (.int .i64 wide)) :: (.ref [.v (.string f.key), .v (.int .i64 f.hi), .v (.int .i64 f.ot), .row 3 (f.ws.map encW) kk] 0) :: (jnk 3 ((.row 2 ((wordsP f wide ((splitT [32] ts).take j)).map (encWd f)) (some q)) :: (jnk 3 ((.row 1 (((splitT [32] ts).map List.flatten).map encL1) none) :: (.v (.int .i64 (splitT [32] ts).length)) :: (.v (.int .i64 j)) :: (jnk 12 []))))))), [], h1⟩) (splitT [32] ts).length ⟨0, ⟨h.H, upd h.T q (some (.tail 0))⟩, by omega, rfl, (fun k x e => (upd_other _ _ (by rintro rfl; rw [hq] at e; cases e)).trans e), upd_same _ _ _, rfl⟩ ?_
 rintro g _ ⟨j, h1, hj, hH, hTs, hq1, rfl⟩
 (repeat (first | refine gO rfl ?_ | (refine gR fun K1 hK1 => ?_; simp only [go_sem, ↓reduceIte, reduceCtorEq, nA, nB, nC, nD, nE, nF] <;> and_intros <;> first | (apply hK1; clear hK1 K1) | (intros; first | omega | decide) | skip)))
 refine awp_cond (t := _) rfl (fun h5 => ?_) (fun h5 => ?_)
 ·simp only [decide_eq_true_eq] at h5
  have hjl : j < (splitT [32] ts).length := by omega
  have gx := row_piece (splitT [32] ts) j hjl
  have hmem : (splitT [32] ts)[j] ∈ splitT [32] ts := List.getElem_mem _
  have hwt : ∀ t ∈ (splitT [32] ts)[j], t ∈ toks := fun t ht => hts t (splitT_mem hmem t ht).1
  have hbe := bs_empty hwt
  have hap := wordsP_app f wide ((splitT [32] ts).take j) (splitT [32] ts)[j]
  rw [← List.take_succ_eq_append_getElem hjl] at hap
  have hls : ∀ b, (encL1 b).length = 1 := fun _ => rfl
  have hgs : ∀ b d, (encL1 b).getD 0 d = .v (.string (bsOf b)) := fun _ _ => rfl
  have hft : ((splitT [32] ts).take j).flatten.length ≤ ts.length := by
   have e : (splitT [32] ts).flatten = ((splitT [32] ts).take j).flatten ++ ((splitT [32] ts).drop j).flatten := by rw [← List.flatten_append, List.take_append_drop]
   have h1 := congrArg List.length e
   rw [splitT_flat, List.length_append] at h1
   exact Nat.le_trans (Nat.le_add_right _ _) (by rw [← h1]; exact List.length_filter_le _ _)
  have hpl := wordsP_len f wide ((splitT [32] ts).take j)
  have hwl : (splitT [32] ts)[j].length ≤ 10000 := by
   have h1 := List.Sublist.length_le (List.sublist_flatten_of_mem hmem)
   rw [splitT_flat] at h1
   exact Nat.le_trans (Nat.le_trans h1 (List.length_filter_le _ _)) hn
  have hc := g_cut f kk (wordsP f wide ((splitT [32] ts).take j)) (splitT [32] ts)[j] wide hwt hwl (by omega) hw hg k0 q h1 (hTs _ _ hT) hq1
  rw [hfl] at hc
  generalize hX : (splitT [32] ts)[j] = x at *
  (repeat (first | refine gO rfl ?_ | (refine gR fun K1 hK1 => ?_; simp only [go_sem, ↓reduceIte, reduceCtorEq, nA, nB, nC, nD, nE, nF, hml, Int.toNat_natCast, gx, hls, hgs] <;> and_intros <;> first | (apply hK1; clear hK1 K1) | (intros; first | omega | decide) | skip)))
  by_cases c1 : x = []
  ·have hce : (bsOf x.flatten == (⟨#[]⟩ : ByteArray)) = true := by rw [hbe, c1]; rfl
   refine awp_cond (t := _) rfl (fun h6 => by rw [hce] at h6; cases h6) (fun _ => ?_)
   (repeat (first | refine gO rfl ?_ | (refine gR fun K1 hK1 => ?_; simp only [go_sem, ↓reduceIte, reduceCtorEq, nA, nB, nC, nD, nE, nF] <;> and_intros <;> first | (apply hK1; clear hK1 K1) | (intros; first | omega | decide) | skip)))
   rw [if_pos c1, List.append_nil] at hap
   exact ⟨g - 1, by omega, j + 1, h1, by omega, hH, hTs, by rw [hap]; exact hq1, by rw [hap]; rfl⟩
  ·have hce : (bsOf x.flatten == (⟨#[]⟩ : ByteArray)) = false := by rw [hbe]; simp [c1]
   refine awp_cond (t := _) rfl (fun _ => ?_) (fun h6 => by rw [hce] at h6; cases h6)
   rw [if_neg c1] at hap
   rw [← hap] at hc
   (repeat (first | refine gO rfl ?_ | (refine gR fun K1 hK1 => ?_; simp only [go_sem, ↓reduceIte, reduceCtorEq, nA, nB, nC, nD, nE, nF] <;> and_intros <;> first | (apply hK1; clear hK1 K1) | (intros; first | omega | decide) | skip)))
   refine hc.mono ?_
   rintro _ h2 ⟨rfl, hH2, hq2, hT2⟩; apply hK1; clear hK1 K1
   (repeat (first | refine gO rfl ?_ | (refine gR fun K1 hK1 => ?_; simp only [go_sem, ↓reduceIte, reduceCtorEq, nA, nB, nC, nD, nE, nF] <;> and_intros <;> first | (apply hK1; clear hK1 K1) | (intros; first | omega | decide) | skip)))
   exact ⟨g - 1, by omega, j + 1, h2, by omega, hH2.trans hH, (fun k x e => hT2 k x (by rintro rfl; rw [hq] at e; cases e) (hTs k x e)), hq2, rfl⟩
 ·simp only [decide_eq_false_iff_not] at h5
  have hjl : j = (splitT [32] ts).length := by omega
  subst hjl
  rw [List.take_length, ← hwT]
  (repeat (first | refine gO rfl ?_ | (refine gR fun K1 hK1 => ?_; simp only [go_sem, ↓reduceIte, reduceCtorEq, nA, nB, nC, nD, nE, nF] <;> and_intros <;> first | (apply hK1; clear hK1 K1) | (intros; first | omega | decide) | skip)))
  simp only [Tryz.results77, go_sem, ↓reduceIte, reduceCtorEq, nA, nB, nC, nD, nE, nF]
  exact ⟨_, _, Weak.refl _, Hp.le.refl _, q, rfl, hq, hH, hTs⟩
theorem cost_bd {n wide : Int} (hn : -100000000 ≤ n) (hw : 1 ≤ wide ∧ wide ≤ 100000) : 0 ≤ costT n wide ∧ costT n wide ≤ 100100000 * 100100000 := by
 unfold costT
 split
 ·omega
 ·have h1 : 0 ≤ wide - n := by omega
  have h2 : wide - n ≤ 100100000 := by omega
  exact ⟨Int.mul_nonneg h1 h1, Int.mul_le_mul h2 h2 h1 (by omega)⟩
theorem g_lineCost (n wide : Int) (hn : -100000000 ≤ n ∧ n ≤ 100000000) (hw : 1 ≤ wide ∧ wide ≤ 100000) (h : Hp) : ACalls Tryz.prog 54 [.v (.int .i64 n), .v (.int .i64 wide)] h (fun r h' => r = .v (.int .i64 (costT n wide)) ∧ h' = h) := by
 have hb := cost_bd hn.1 hw
 unfold costT at hb ⊢
 refine gE Tryz.func54 rfl (by kernel_rfl) 13 rfl fun c => ?_
 (repeat (first | refine gO rfl ?_ | (refine gR fun K1 hK1 => ?_; simp only [go_sem, ↓reduceIte, reduceCtorEq, nA, nB, nC, nD, nE, nF] <;> and_intros <;> first | (apply hK1; clear hK1 K1) | (intros; first | omega | decide | (simp_all <;> omega)) | skip)))
 refine awp_cond (t := _) rfl (fun h1 => ?_) (fun h1 => ?_)
 ·simp only [decide_eq_true_eq] at h1
  (repeat (first | refine gO rfl ?_ | (refine gR fun K1 hK1 => ?_; simp only [go_sem, ↓reduceIte, reduceCtorEq, nA, nB, nC, nD, nE, nF] <;> and_intros <;> first | (apply hK1; clear hK1 K1) | (intros; first | omega | decide | (simp_all <;> omega)) | skip)))
  simp only [Tryz.results54, go_sem, ↓reduceIte, reduceCtorEq, nA, nB, nC, nD, nE, nF]
  exact ⟨_, _, Weak.refl _, Hp.le.refl _, by rw [if_pos h1], rfl⟩
 ·simp only [decide_eq_false_iff_not] at h1
  rw [if_neg h1] at hb ⊢
  (repeat (first | refine gO rfl ?_ | (refine gR fun K1 hK1 => ?_; simp only [go_sem, ↓reduceIte, reduceCtorEq, nA, nB, nC, nD, nE, nF] <;> and_intros <;> first | (apply hK1; clear hK1 K1) | (intros; first | omega | decide | (simp_all <;> omega)) | skip)))
  simp only [Tryz.results54, go_sem, ↓reduceIte, reduceCtorEq, nA, nB, nC, nD, nE, nF]
  exact ⟨_, _, Weak.refl _, Hp.le.refl _, rfl, rfl⟩
theorem cost_sq {n wide : Int} (h0 : 0 ≤ n) (hw : 0 ≤ wide) : 0 ≤ costT n wide ∧ costT n wide ≤ wide * wide := by
  unfold costT
  split
  · exact ⟨Int.le_refl _, Int.mul_nonneg hw hw⟩
  · have h1 : 0 ≤ wide - n := by omega
    have h2 : wide - n ≤ wide := by omega
    exact ⟨Int.mul_nonneg h1 h1, Int.mul_le_mul h2 h2 h1 hw⟩
def WayB (C : Int) (m : Nat) (y : Way) : Prop := (0 ≤ y.1 ∧ y.1 ≤ m) ∧ (0 ≤ y.2.1 ∧ y.2.1 ≤ C * m) ∧ y.2.2 ≤ m
theorem wayX_bd {C wide : Int} {m : Nat} {y : Way} (hC : 0 ≤ C) (hy : WayB C m y) (ws : List Int) {n : Int} (hc : 0 ≤ costT n wide ∧ costT n wide ≤ C) {c : Nat} (h : c ≤ m) : WayB C (m + 1) (wayX wide y ws n c) := by
  obtain ⟨⟨h1, h2⟩, ⟨h3, h4⟩, h5⟩ := hy
  have e : C * ((m + 1 : Nat) : Int) = C * m + C := by rw [Int.natCast_add, Int.mul_add]; simp
  unfold wayX
  refine ⟨⟨by show 0 ≤ y.1 + 1; omega, by show y.1 + 1 ≤ _; omega⟩, ?_, by show c + 1 ≤ _; omega⟩
  rw [e]
  generalize C * (m : Int) = z at *
  show 0 ≤ (if ws.isEmpty then y.2.1 else y.2.1 + costT n wide) ∧ (if ws.isEmpty then y.2.1 else y.2.1 + costT n wide) ≤ _
  split <;> omega
theorem inner_bd {blank wide : Int} (hb : 0 ≤ blank) (hw : 0 ≤ wide) (m : Nat) : ∀ (ws : List Int) (ys : List Way) (n : Int) (c : Nat) (cur : Way), (∀ w ∈ ws, 0 ≤ w) → (∀ y ∈ ys, WayB (wide * wide) m y) → -blank ≤ n → c + ws.length ≤ m + 1 → WayB (wide * wide) (m + 1) cur →
    WayB (wide * wide) (m + 1) (innerT blank wide ws ys n c cur)
  | [], ys, n, c, cur, _, _, _, _, h => by cases ys <;> exact h
  | w :: ws, [], n, c, cur, _, _, _, _, h => h
  | w :: ws, y :: ys, n, c, cur, h1, h2, h3, h4, h => by
    have hw0 := h1 w (by simp)
    have hl : c + (ws.length + 1) ≤ m + 1 := h4
    rw [innerT]
    split
    · exact h
    · refine inner_bd hb hw m ws ys _ (c + 1) _ (fun x hx => h1 x (by simp [hx])) (fun x hx => h2 x (by simp [hx])) (by omega) (by omega) ?_
      split
      · exact wayX_bd (Int.mul_nonneg hw hw) (h2 y (by simp)) ws (cost_sq (by omega) hw) (by omega)
      · exact h
theorem WayB.mono {C : Int} (hC : 0 ≤ C) {m k : Nat} {y : Way} (h : WayB C m y) (hk : m ≤ k) : WayB C k y := by
  obtain ⟨h1, h2, h3⟩ := h
  have : C * (m : Int) ≤ C * k := Int.mul_le_mul_of_nonneg_left (by omega) hC
  exact ⟨by omega, by omega, by omega⟩
theorem ways_bd {blank wide : Int} (hb : 0 ≤ blank) (hw : 0 ≤ wide) : ∀ l : List Int, (∀ w ∈ l, 0 ≤ w) → ∀ y ∈ waysT blank wide l, WayB (wide * wide) l.length y
  | [], _, y, hy => by
    simp only [waysT, List.mem_singleton] at hy
    subst hy
    exact ⟨by simp, by simp, by simp⟩
  | w :: ws, h, y, hy => by
    have ih := ways_bd hb hw ws (fun x hx => h x (by simp [hx]))
    rw [waysT] at hy
    rcases List.mem_cons.1 hy with rfl | hy
    · exact inner_bd hb hw ws.length (w :: ws) _ _ 0 _ h ih (Int.le_refl _) (by simp) ⟨by simp; omega, by simp; exact Int.mul_nonneg (Int.mul_nonneg hw hw) (by omega), by simp⟩
    · exact (ih y hy).mono (Int.mul_nonneg hw hw) (by simp)
def wayAt (blank wide : Int) (l : List Int) (k : Nat) : Way := (waysT blank wide (l.drop k)).getD 0 (0, 0, 0)
theorem wayAt_bd {blank wide : Int} (hb : 0 ≤ blank) (hw : 0 ≤ wide) {l : List Int} (h : ∀ w ∈ l, 0 ≤ w) (k : Nat) : WayB (wide * wide) (l.length - k) (wayAt blank wide l k) := by
  have := ways_bd hb hw (l.drop k) (fun x hx => h x (List.mem_of_mem_drop hx)) (wayAt blank wide l k) (by
    unfold wayAt
    have h1 := waysT_len blank wide (l.drop k)
    rw [List.getD_eq_getElem?_getD, List.getElem?_eq_getElem (by omega), Option.getD_some]
    exact List.getElem_mem _)
  rwa [List.length_drop] at this
theorem ways_getD (blank wide : Int) (l : List Int) (k : Nat) (hk : k ≤ l.length) (d : Way) : (waysT blank wide l).getD k d = wayAt blank wide l k := by
  have h1 := waysT_len blank wide l
  have h2 := waysT_len blank wide (l.drop k)
  unfold wayAt
  rw [← waysT_drop blank wide l k hk] at h2 ⊢
  rw [List.getD_eq_getElem?_getD, List.getD_eq_getElem?_getD, List.getElem?_eq_getElem (by omega), List.getElem?_drop, Nat.add_zero, List.getElem?_eq_getElem (by omega)]; rfl
theorem ways_cons (blank wide : Int) (l : List Int) : ∃ tl, waysT blank wide l = (waysT blank wide l).getD 0 (0, 0, 0) :: tl := by
  cases h : waysT blank wide l with
  | nil => have := waysT_len blank wide l; rw [h] at this; simp at this
  | cons y tl => exact ⟨tl, rfl⟩
def wayN (blank wide : Int) (l : List Int) (k : Nat) (n : Int) (c : Nat) : Way := ((wayAt blank wide l (k + 1)).1 + 1, if k + 1 < l.length then (wayAt blank wide l (k + 1)).2.1 + costT n wide else (wayAt blank wide l (k + 1)).2.1, c + 1)
theorem inner_step (blank wide : Int) (l : List Int) (k : Nat) (w : Int) (hk : l[k]? = some w) (n : Int) (c : Nat) (cur : Way) : innerT blank wide (l.drop k) (waysT blank wide (l.drop (k + 1))) n c cur =
    if 0 < c ∧ wide < n + (blank + w) then cur
    else innerT blank wide (l.drop (k + 1)) (waysT blank wide (l.drop (k + 1 + 1))) (n + (blank + w)) (c + 1) (if c = 0 ∨ wayLe (wayN blank wide l k (n + (blank + w)) c) cur = true then wayN blank wide l k (n + (blank + w)) c else cur) := by
  obtain ⟨hkl, rfl⟩ := List.getElem?_eq_some_iff.1 hk
  have hX : ∀ n', wayX wide (wayAt blank wide l (k + 1)) (l.drop (k + 1)) n' c = wayN blank wide l k n' c := fun n' => by
    unfold wayX wayN
    by_cases e : k + 1 < l.length
    · rw [if_pos e, if_neg (by simp; omega)]
    · rw [if_neg e, if_pos (by simp; omega)]
  obtain ⟨tl, ht⟩ := ways_cons blank wide (l.drop (k + 1))
  have ht2 : innerT blank wide (l.drop (k + 1)) tl = innerT blank wide (l.drop (k + 1)) (waysT blank wide (l.drop (k + 1 + 1))) := by
    by_cases e : k + 1 < l.length
    · rw [List.drop_eq_getElem_cons e, waysT] at ht
      rw [(List.cons.inj ht).2]
    · rw [List.drop_eq_nil_of_le (by omega)]
      funext a b c
      cases tl <;> rfl
  rw [ht, List.drop_eq_getElem_cons hkl, innerT, ht2]
  show (if _ then _ else innerT _ _ _ _ _ _ (if c = 0 ∨ wayLe (wayX wide (wayAt blank wide l (k + 1)) _ _ c) cur = true then wayX wide (wayAt blank wide l (k + 1)) _ _ c else cur)) = _
  rw [hX]
theorem ways_at (blank wide : Int) (l : List Int) (i : Nat) (hi : i < l.length) : waysT blank wide (l.drop i) = innerT blank wide (l.drop i) (waysT blank wide (l.drop (i + 1))) (-blank) 0 (0, 0, 0) :: waysT blank wide (l.drop (i + 1)) := by
  rw [List.drop_eq_getElem_cons hi, waysT]
theorem inner_end (blank wide : Int) (l : List Int) (k : Nat) (hk : l.length ≤ k) (ys : List Way) (n : Int) (c : Nat) (cur : Way) : innerT blank wide (l.drop k) ys n c cur = cur := by
  rw [List.drop_eq_nil_of_le hk]; cases ys <;> rfl
theorem joinT_lib (ws : List (List Tok)) : Lib.join (ws.map List.flatten) [32] = (joinT ws).flatten := by
  induction ws with
  | nil => rfl
  | cons w l ih =>
    cases l with
    | nil => simp [Lib.join, joinT]
    | cons v l =>
      rw [joinT_cons (by simp), List.flatten_append, List.flatten_cons, ← ih]
      simp [Lib.join, blT, List.intercalate]
theorem join_nil (ls : List (List UInt8)) : Lib.join ls [] = ls.flatten := by
  induction ls with
  | nil => rfl
  | cons w l ih =>
    cases l with
    | nil => simp [Lib.join]
    | cons v l =>
      rw [List.flatten_cons, ← ih]
      simp [Lib.join, List.intercalate, List.intersperse]
theorem mem_joinT {x : Tok} : ∀ {ws : List (List Tok)}, x ∈ joinT ws → x = blT ∨ ∃ w ∈ ws, x ∈ w
  | [], h => by simp [joinT] at h
  | [w], h => .inr ⟨w, by simp, h⟩
  | w :: v :: l, h => by
    rw [joinT_cons (by simp)] at h
    rcases List.mem_append.1 h with h | h
    · exact .inr ⟨w, by simp, h⟩
    · rcases List.mem_cons.1 h with h | h
      · exact .inl h
      · rcases mem_joinT h with h | ⟨y, h1, h2⟩
        · exact .inl h
        · exact .inr ⟨y, List.mem_cons_of_mem _ h1, h2⟩
theorem mem_para {g : Nat} {ws : List (List Tok)} {ys : List Way} {l : List Tok} (h : l ∈ paraT g ws ys) : ∀ x ∈ l, x = blT ∨ ∃ w ∈ ws, x ∈ w := by
  induction g generalizing ws ys with
  | zero => simp [paraT] at h
  | succ g ih =>
    rw [paraT] at h
    split at h
    · simp at h
    · intro x hx
      rcases List.mem_cons.1 h with rfl | h
      · rcases mem_joinT hx with e | ⟨w, h1, h2⟩
        · exact .inl e
        · exact .inr ⟨w, List.mem_of_mem_take h1, h2⟩
      · rcases ih h x hx with e | ⟨w, h1, h2⟩
        · exact .inl e
        · exact .inr ⟨w, List.mem_of_mem_drop h1, h2⟩
theorem lines_toks (f : Fo) (wide : Int) {ts : List Tok} (hts : ∀ t ∈ ts, t ∈ toks) : ∀ l ∈ linesT f wide ts, ∀ x ∈ l, x ∈ toks := by
  have hb : blT ∈ toks := by decide
  intro l hl x hx
  unfold linesT at hl
  obtain ⟨p, hp, hl⟩ := List.mem_flatMap.1 hl
  unfold paragraphT at hl
  split at hl
  · simp at hl; subst hl; simp at hx
  · rcases mem_para hl x hx with rfl | ⟨w, h1, h2⟩
    · exact hb
    · exact hts _ (splitT_mem hp x (wordsT_mem h1 x h2).1).1
abbrev zP17E : List Nat := [0, 1, 2, 3, 4, 5, 6, 7, 8, 9, 10, 11, 12, 13, 14, 15, 16, 17]
abbrev zP17P : List (Nat × List Nat × List Nat) := [(19, [], [])]
abbrev zP18E : List Nat := [0, 1, 2, 3]
abbrev zP18P : List (Nat × List Nat × List Nat) := [(4, [1], [5, 6]), (7, [], [])]
abbrev zP19E : List Nat := [0, 1, 2, 3, 4, 5, 6, 7, 9, 10, 11, 12]
abbrev zP19P : List (Nat × List Nat × List Nat) := [(8, [10, 12], []), (13, [], [14]), (15, [], [16, 17])]
attribute [go_sem] zP17E zP17P zP18E zP18P zP19E zP19P
def encY (y : Way) : List AV := [.v (.int .i64 y.1), .v (.int .i64 y.2.1), .v (.int .i64 y.2.2)]
def rowY (blank wide : Int) (L : List Int) (i : Nat) (cur : Way) : List (List AV) := (List.replicate i (0, 0, 0) ++ cur :: waysT blank wide (L.drop (i + 1))).map encY
theorem rowY_len (blank wide : Int) (L : List Int) (i : Nat) (cur : Way) (hi : i < L.length) : (rowY blank wide L i cur).length = L.length + 1 := by
 unfold rowY
 rw [List.length_map, List.length_append, List.length_replicate, List.length_cons, waysT_len, List.length_drop]; omega
theorem rowY_at (blank wide : Int) (L : List Int) (i k : Nat) (cur : Way) (hi : i ≤ k) (hk : k < L.length) : (rowY blank wide L i cur).getD (k + 1) [] = encY (wayAt blank wide L (k + 1)) := by
 have h1 := ways_getD blank wide (L.drop (i + 1)) (k - i) (by rw [List.length_drop]; omega) (0, 0, 0)
 have h2 : wayAt blank wide (L.drop (i + 1)) (k - i) = wayAt blank wide L (k + 1) := by
  unfold wayAt; rw [List.drop_drop, show i + 1 + (k - i) = k + 1 by omega]
 have h3 := waysT_len blank wide (L.drop (i + 1))
 rw [List.length_drop] at h3
 unfold rowY
 rw [← h2, ← h1, List.getD_eq_getElem?_getD, List.getElem?_map, List.getElem?_append_right (by rw [List.length_replicate]; omega), List.length_replicate, show k + 1 - i = (k - i) + 1 by omega, List.getElem?_cons_succ,
  List.getD_eq_getElem?_getD, List.getElem?_eq_getElem (by omega)]
 rfl
theorem rowY_cur (blank wide : Int) (L : List Int) (i : Nat) (cur : Way) : (rowY blank wide L i cur).getD i [] = encY cur := by
 unfold rowY
 rw [List.getD_eq_getElem?_getD, List.getElem?_map, List.getElem?_append_right (by rw [List.length_replicate]; omega), List.length_replicate, Nat.sub_self]
 rfl
theorem rowY_set (blank wide : Int) (L : List Int) (i : Nat) (cur w : Way) : (rowY blank wide L i cur).set i (encY w) = rowY blank wide L i w := by
 unfold rowY
 rw [← List.map_set, List.set_append_right _ _ (by rw [List.length_replicate]; omega), List.length_replicate, Nat.sub_self]
 rfl
theorem rowY_start (blank wide : Int) (L : List Int) (i : Nat) : (List.replicate (i + 1) (0, 0, 0) ++ waysT blank wide (L.drop (i + 1))).map encY = rowY blank wide L i (0, 0, 0) := by
 unfold rowY
 rw [List.replicate_succ', List.append_assoc]; rfl
theorem rowY_end (blank wide : Int) (L : List Int) (i : Nat) (hi : i < L.length) : rowY blank wide L i (innerT blank wide (L.drop i) (waysT blank wide (L.drop (i + 1))) (-blank) 0 (0, 0, 0)) = (List.replicate i (0, 0, 0) ++ waysT blank wide (L.drop i)).map encY := by
 unfold rowY
 rw [← ways_at _ _ _ _ hi]
theorem wayLe_cmp (x y : Way) : wayLe x y = decide ((if cmpI x.1 y.1 = 0 then cmpI x.2.1 y.2.1 else cmpI x.1 y.1) ≤ 0) := by
 unfold wayLe cmpI
 by_cases h1 : x.1 < y.1
 ·simp [h1]
 ·by_cases h2 : y.1 < x.1
  ·have : ¬ x.1 = y.1 := by omega
   simp [h1, h2, this]
  ·have : x.1 = y.1 := by omega
   by_cases h3 : x.2.1 < y.2.1
   ·have : x.2.1 ≤ y.2.1 := by omega
    simp [h1, h2, h3, *]
   ·by_cases h4 : y.2.1 < x.2.1
    ·simp [h1, h2, h3, h4, *]
    ·have : x.2.1 ≤ y.2.1 := by omega
     simp [h1, h2, h3, h4, *]
theorem g_broken (f : Fo) (kk : Option Nat) (ws : List (List Tok)) (blank wide : Int) (hb : 0 ≤ blank ∧ blank ≤ 1000) (hw : 1 ≤ wide ∧ wide ≤ 100000) (hn : ws.length ≤ 20000) (hM : ∀ w ∈ ws.map (sumW f), 0 ≤ w ∧ w ≤ 10000000) (h : Hp) :
  ACalls Tryz.prog 111 [.row 2 (ws.map (encWd f)) kk, .v (.int .i64 blank), .v (.int .i64 wide)] h
   (fun r h' => ∃ k, r = .arr 3 k (ws.length + 1) ∧ h.T k = none ∧ h' = ⟨h.H, upd h.T k (some (.cont 3 ((waysT blank wide (ws.map (sumW f))).map encY)))⟩) := by
 have hll : (ws.map (encWd f)).length = ws.length := List.length_map _
 have hLl : (ws.map (sumW f)).length = ws.length := List.length_map _
 obtain ⟨L, hL⟩ : ∃ L, L = ws.map (sumW f) := ⟨_, rfl⟩
 rw [← hL] at hM hLl ⊢
 have hC : wide * wide ≤ 10000000000 := Int.mul_le_mul hw.2 hw.2 (by omega) (by omega)
 have hC0 : 0 ≤ wide * wide := Int.mul_nonneg (by omega) (by omega)
 have hwb := fun k => wayAt_bd hb.1 (by omega) (fun w hw => (hM w hw).1) (blank := blank) (wide := wide) (l := L) k
 refine gE Tryz.func111 rfl (by kernel_rfl) 104 rfl fun c => ?_
 (repeat (first | refine gO rfl ?_ | ((refine gM zM23 fun K1 hK1 => ?_; simp only [go_sem, ↓reduceIte, reduceCtorEq, nA, nB, nC, nD, nE, nF, hll] <;> and_intros <;> first | (apply hK1; clear hK1 K1) | (intros; (omega)) | skip))))
 intro q hq
 and_intros <;> first | (refine hK1 _ ?_; clear hK1 K1) | exact .inl trivial | exact .inr rfl | exact .inr True.intro | exact True.intro | omega
 (repeat (first | refine gO rfl ?_ | ((refine gM zM23 fun K1 hK1 => ?_; simp only [go_sem, ↓reduceIte, reduceCtorEq, nA, nB, nC, nD, nE, nF, hll] <;> and_intros <;> first | (apply hK1; clear hK1 K1) | (intros; (omega))))))
 refine awp_loopC (rl false [0, 3, 4, 2, 98]) 0 (fun g s => ∃ j : Nat, g = j ∧ j ≤ L.length ∧
  s = ⟨((.row 2 (ws.map (encWd f)) kk) :: (.v (.int .i64 blank)) :: (.v (.int .i64 wide)) :: (jnk 4 ((.arr 3 q (ws.length + 1)) :: (.v (.int .i64 ((j : Int) - 1))) :: (jnk 98 [])))), [], ⟨h.H, upd h.T q (some (.cont 3 ((List.replicate j (0, 0, 0) ++ waysT blank wide (L.drop j)).map encY)))⟩⟩) L.length ⟨L.length, rfl, Nat.le_refl _, ?_⟩ ?_
 ·rw [List.drop_length, ← hLl, show (((L.length : Int)) + 1).toNat = L.length + 1 by omega]
  have e1 : (List.replicate L.length ((0, 0, 0) : Way) ++ waysT blank wide []).map encY = List.replicate (L.length + 1) [.v (.int .i64 0), .v (.int .i64 0), .v (.int .i64 0)] := by
   show (List.replicate L.length ((0, 0, 0) : Way) ++ [(0, 0, 0)]).map encY = _
   rw [← List.replicate_succ', List.map_replicate]; rfl
  rw [e1]; rfl
 rintro g _ ⟨j, hgj, hj, rfl⟩
 (repeat (first | refine gO rfl ?_ | ((refine gM zM23 fun K1 hK1 => ?_; simp only [go_sem, ↓reduceIte, reduceCtorEq, nA, nB, nC, nD, nE, nF] <;> and_intros <;> (apply hK1; clear hK1 K1)))))
 refine awp_cond (t := _) rfl (fun h5 => ?_) (fun h5 => ?_)
 ·simp only [decide_eq_true_eq] at h5
  obtain ⟨i, rfl⟩ : ∃ i, j = i + 1 := ⟨j - 1, by omega⟩
  have ei : ((i + 1 : Nat) : Int) - 1 = (i : Int) := by omega
  rw [ei, rowY_start]
  have hi : i < L.length := by omega
  obtain ⟨X, hX⟩ : ∃ X, X = innerT blank wide (L.drop i) (waysT blank wide (L.drop (i + 1))) (-blank) 0 (0, 0, 0) := ⟨_, rfl⟩
  have hend := rowY_end blank wide L i hi
  rw [← hX] at hend
  (repeat (first | refine gO rfl ?_ | ((refine gM zM23 fun K1 hK1 => ?_; simp only [go_sem, ↓reduceIte, reduceCtorEq, nA, nB, nC, nD, nE, nF] <;> and_intros <;> first | (apply hK1; clear hK1 K1) | (intros; (omega))))))
  refine awp_loopC (rl false [0, 3, 4, 4, 96]) 0 (fun g s => ∃ (k : Nat) (n : Int) (cur : Way), g + k = L.length ∧ i ≤ k ∧ (k = i → n = -blank) ∧ (-blank ≤ n ∧ n ≤ 10000000) ∧ WayB (wide * wide) (L.length - i) cur ∧
   innerT blank wide (L.drop k) (waysT blank wide (L.drop (k + 1))) n (k - i) cur = X ∧
   s = ⟨((.row 2 (ws.map (encWd f)) kk) :: (.v (.int .i64 blank)) :: (.v (.int .i64 wide)) :: (jnk 4 ((.arr 3 q (ws.length + 1)) :: (.v (.int .i64 i)) :: (.v (.int .i64 n)) :: (.v (.int .i64 k)) :: (jnk 96 [])))), [], ⟨h.H, upd h.T q (some (.cont 3 (rowY blank wide L i cur)))⟩⟩) (L.length - i) ⟨i, -blank, (0, 0, 0), by omega, by omega, (fun _ => rfl), by omega, ⟨⟨Int.le_refl _, Int.natCast_nonneg _⟩, ⟨Int.le_refl _, Int.mul_nonneg hC0 (Int.natCast_nonneg _)⟩, Nat.zero_le _⟩, by rw [Nat.sub_self, hX], rfl⟩ ?_
  rintro g2 _ ⟨k, n, cur, hg2, hik, hk0, hnb, hcur, hinn, rfl⟩
  (repeat (first | refine gO rfl ?_ | ((refine gM zM23 fun K1 hK1 => ?_; simp only [go_sem, ↓reduceIte, reduceCtorEq, nA, nB, nC, nD, nE, nF, hll] <;> and_intros <;> (apply hK1; clear hK1 K1)))))
  refine awp_cond (t := _) rfl (fun h6 => ?_) (fun h6 => ?_)
  ·simp only [decide_eq_true_eq] at h6
   have hkL : k < L.length := by omega
   have hkw : k < ws.length := by omega
   obtain ⟨w, hwk⟩ : ∃ w, L[k]? = some w := ⟨_, List.getElem?_eq_getElem hkL⟩
   have hwm := hM w (List.mem_of_getElem? hwk)
   obtain ⟨b, hgx⟩ : ∃ b, (ws.map (encWd f)).getD k [] = [.v (.string b), .v (.int .i64 w)] := by
    refine ⟨bsOf ws[k].flatten, ?_⟩
    rw [hL, List.getElem?_map, List.getElem?_eq_getElem hkw] at hwk
    have := Option.some.inj hwk
    rw [List.getD_eq_getElem?_getD, List.getElem?_map, List.getElem?_eq_getElem hkw, ← this]; rfl
   have hst := inner_step blank wide L k w hwk n (k - i) cur
   rw [hinn] at hst
   have ek1 : k + 1 - i = k - i + 1 := by omega
   have hrl := rowY_len blank wide L i cur hi
   rw [hLl] at hrl
   have hat := rowY_at blank wide L i k cur hik hkL
   have hcu := rowY_cur blank wide L i cur
   have hset := fun w => rowY_set blank wide L i cur w
   have hTq : upd h.T q (some (TO.cont 3 (rowY blank wide L i cur))) q = some (.cont 3 (rowY blank wide L i cur)) := upd_same _ _ _
   have hyb := hwb (k + 1)
   have tk1 : ((k : Int) + 1).toNat = k + 1 := by omega
   (repeat (first | refine gO rfl ?_ | ((refine gM zM23 fun K1 hK1 => ?_; simp only [go_sem, ↓reduceIte, reduceCtorEq, nA, nB, nC, nD, nE, nF, hll, Int.toNat_natCast, hgx] <;> and_intros <;> first | (apply hK1; clear hK1 K1) | (intros; (omega))))))
   refine awp_cond (t := _) rfl (fun h7 => ?_) (fun h7 => ?_)
   ·have h7' : i < k ∧ wide < n + (blank + w) := by
     by_cases e : i < k
     ·simpa [e] using h7
     ·simp [e] at h7
    rw [if_pos ⟨by omega, h7'.2⟩] at hst
    (repeat (first | refine gO rfl ?_ | ((refine gM zM23 fun K1 hK1 => ?_; simp only [go_sem, ↓reduceIte, reduceCtorEq, nA, nB, nC, nD, nE, nF] <;> and_intros <;> first | (apply hK1; clear hK1 K1) | (intros; (omega))))))
    refine ⟨i, by omega, i, rfl, by omega, ?_⟩
    rw [← hend, hst]; rfl
   have h7' : k = i ∨ n + (blank + w) ≤ wide := by
    by_cases e : i < k
    ·right; simpa [e] using h7
    ·left; omega
   rw [if_neg (fun e => by omega)] at hst
   clear h7
   obtain ⟨n', hn'⟩ : ∃ n', n' = n + (blank + w) := ⟨_, rfl⟩
   rw [← hn'] at h7' hst ⊢
   have hnb' : 0 ≤ n' ∧ n' ≤ 10000000 := by
    by_cases e : k = i
    ·have := hk0 e; omega
    ·omega
   obtain ⟨y, hy⟩ : ∃ y, y = wayAt blank wide L (k + 1) := ⟨_, rfl⟩
   rw [← hy] at hat hyb
   have hyl : 0 ≤ y.1 ∧ y.1 ≤ 20000 := by have := hyb.1; omega
   have hys : 0 ≤ y.2.1 ∧ y.2.1 ≤ 200000000000000 := ⟨hyb.2.1.1, Int.le_trans hyb.2.1.2 (Int.mul_le_mul (a := wide * wide) (b := ((L.length - (k + 1) : Nat) : Int)) (c := 10000000000) (d := 20000) hC (by omega) (by omega) (by omega))⟩
   (repeat (first | refine gO rfl ?_ | ((first | refine gM zM23 ?_ | (with_reducible refine wM ?_ ?_) | ((with_reducible refine xS ?_); refine uF 11 zM23 18 zP17E zP17P 107 rfl (by kernel_rfl) ?_)) <;> ((try with_reducible intro K1 hK1); simp only [go_sem, ↓reduceIte, reduceCtorEq, nA, nB, nC, nD, nE, nF, hll, Int.toNat_natCast, hTq, hrl, tk1, hat, encY] <;> and_intros <;> first | (apply hK1; clear hK1 K1) | (intros; (omega))))))
   have hcb := cost_sq (n := n') (wide := wide) hnb'.1 (by omega)
   have hNt : k + 1 < L.length → encY (wayN blank wide L k n' (k - i)) = [.v (.int .i64 (y.1 + 1)), .v (.int .i64 (y.2.1 + costT n' wide)), .v (.int .i64 ((k : Int) + 1 - i))] := fun e => by
    unfold wayN encY
    rw [← hy, if_pos e, show (((k - i + 1 : Nat) : Int)) = (k : Int) + 1 - i by omega]
   have hNf : ¬ k + 1 < L.length → encY (wayN blank wide L k n' (k - i)) = [.v (.int .i64 (y.1 + 1)), .v (.int .i64 y.2.1), .v (.int .i64 ((k : Int) + 1 - i))] := fun e => by
    unfold wayN encY
    rw [← hy, if_neg e, show (((k - i + 1 : Nat) : Int)) = (k : Int) + 1 - i by omega]
   have hNb : WayB (wide * wide) (L.length - i) (wayN blank wide L k n' (k - i)) := by
    have h1 : WayB (wide * wide) (L.length - (k + 1) + 1) (wayX wide y (L.drop (k + 1)) n' 0) := wayX_bd hC0 hyb _ hcb (by omega)
    have h2 := h1.mono hC0 (k := L.length - i) (by omega)
    unfold wayX at h2
    unfold wayN
    rw [← hy]
    refine ⟨h2.1, ?_, by show k - i + 1 ≤ _; omega⟩
    have h3 := h2.2.1
    by_cases e : k + 1 < L.length
    ·rw [if_pos e]; rw [if_neg (by simp; omega)] at h3; exact h3
    ·rw [if_neg e]; rw [if_pos (by simp; omega)] at h3; exact h3
   generalize wayN blank wide L k n' (k - i) = W1 at *
   refine awp_join (rl false [0, 3, 4, 5, 95]) 1 (fun s => s = ⟨((.row 2 (ws.map (encWd f)) kk) :: (.v (.int .i64 blank)) :: (.v (.int .i64 wide)) :: (jnk 4 ((.arr 3 q (ws.length + 1)) :: (.v (.int .i64 i)) :: (.v (.int .i64 n')) :: (.v (.int .i64 k)) :: (.loc 0 0) :: (jnk 95 [])))), [encY W1], ⟨h.H, upd h.T q (some (.cont 3 (rowY blank wide L i cur)))⟩⟩) ?_ ?_
   ·refine awp_cond (t := _) rfl (fun h8 => ?_) (fun h8 => ?_)
    ·simp only [decide_eq_true_eq] at h8
     (repeat (((first | refine gM zM23 ?_ | ((with_reducible refine xR ?_); refine uE 13 zM23 zP18E zP18P 107 rfl (by kernel_rfl) ?_)) <;> ((try with_reducible intro K1 hK1); simp only [go_sem, ↓reduceIte, reduceCtorEq, nA, nB, nC, nD, nE, nF] <;> and_intros <;> first | (apply hK1; clear hK1 K1) | skip))))
     refine (g_lineCost n' wide (by omega) hw _).mono ?_; rintro _ hz ⟨rfl, hh⟩; apply hK1; clear hK1 K1; rw [hh]; clear hh hz
     (repeat ((((with_reducible refine wM ?_ ?_)) <;> ((try with_reducible intro K1 hK1); simp only [go_sem, ↓reduceIte, reduceCtorEq, nA, nB, nC, nD, nE, nF] <;> and_intros <;> first | (apply hK1; clear hK1 K1) | (intros; (omega)) | skip))))
     all_goals try with_reducible rfl
     (repeat (first | refine gO rfl ?_ | ((first | refine gM zM23 ?_ | (with_reducible refine wM ?_ ?_)) <;> ((try with_reducible intro K1 hK1); simp only [go_sem, ↓reduceIte, reduceCtorEq, nA, nB, nC, nD, nE, nF] <;> and_intros <;> (apply hK1; clear hK1 K1)))))
     first | rfl | (rw [hNt (by omega)]; rfl)
    ·simp only [decide_eq_false_iff_not] at h8
     (repeat ((refine gO rfl ?_)))
     first | rfl | (rw [hNf (by omega)]; rfl)
   rintro _ rfl
   clear hNt hNf
   obtain ⟨a1, a2, a3⟩ := W1
   obtain ⟨b1, b2, b3⟩ := cur
   have hx1 : encY (a1, a2, a3) = [.v (.int .i64 a1), .v (.int .i64 a2), .v (.int .i64 a3)] := rfl
   have hx2 : encY (b1, b2, b3) = [.v (.int .i64 b1), .v (.int .i64 b2), .v (.int .i64 b3)] := rfl
   rw [hx2] at hcu
   have hs1 := hset (a1, a2, a3)
   rw [hx1] at hs1 ⊢
   by_cases e : k = i
   ·have hki : ((k : Int) == (i : Int)) = true := by rw [e]; simp
    (repeat (first | refine gO rfl ?_ | ((first | refine gM zM23 ?_ | (with_reducible refine wM ?_ ?_) | ((with_reducible refine xS ?_); refine uD 15 zM23 zP19E zP19P 107 rfl (by kernel_rfl) ?_)) <;> ((try with_reducible intro K1 hK1); simp only [go_sem, ↓reduceIte, reduceCtorEq, nA, nB, nC, nD, nE, nF, Int.toNat_natCast, hTq, hrl, hcu, hki] <;> and_intros <;> first | (apply hK1; clear hK1 K1) | (intros; (omega)) | skip))))
    all_goals try with_reducible rfl
    (repeat (((first | refine gM zM23 ?_ | (with_reducible refine wM ?_ ?_)) <;> ((try with_reducible intro K1 hK1); simp only [go_sem, ↓reduceIte, reduceCtorEq, nA, nB, nC, nD, nE, nF, hki] <;> and_intros <;> first | (apply hK1; clear hK1 K1) | skip))))
    all_goals try with_reducible rfl
    refine ⟨.v (.int .i64 0), rfl, hK1 _ ?_⟩
    clear hK1 K1
    (repeat (((first | refine gM zM23 ?_ | (with_reducible refine wM ?_ ?_)) <;> ((try with_reducible intro K1 hK1); simp only [go_sem, ↓reduceIte, reduceCtorEq, nA, nB, nC, nD, nE, nF, Int.toNat_natCast, hTq, hrl, hcu, hki] <;> and_intros <;> first | (apply hK1; clear hK1 K1) | skip))))
    all_goals try with_reducible rfl
    skip
    all_goals try with_reducible rfl
    refine ⟨.v (.int .i64 0), rfl, hK1 _ ?_⟩
    clear hK1 K1
    (repeat ((refine gO rfl ?_)))
    all_goals try with_reducible rfl
    skip
    all_goals try with_reducible rfl
    refine awp_cond (t := _) rfl (fun _ => ?_) (fun h9 => by simp at h9)
    (repeat (first | refine gO rfl ?_ | ((refine gM zM23 fun K1 hK1 => ?_; simp only [go_sem, ↓reduceIte, reduceCtorEq, nA, nB, nC, nD, nE, nF, Int.toNat_natCast, hTq, hrl] <;> and_intros <;> first | (apply hK1; clear hK1 K1) | (intros; (omega))))))
    rw [if_pos (.inl (by omega)), ← ek1] at hst
    refine ⟨g2 - 1, by omega, k + 1, n', (a1, a2, a3), by omega, by omega, (fun e => by omega), by omega, hNb, hst.symm, ?_⟩
    rw [← hs1]
    show St.cut _ _ ⟨_, _, ⟨_, upd _ _ (some (.cont 3 (List.set _ _ (_ :: _ :: _ :: List.drop 3 (List.getD _ _ _)))))⟩⟩ = _
    rw [hcu]; rfl
   ·have hki : ((k : Int) == (i : Int)) = false := by simp; omega
    (repeat (first | refine gO rfl ?_ | ((first | refine gM zM23 ?_ | ((with_reducible refine xS ?_); refine uD 15 zM23 zP19E zP19P 107 rfl (by kernel_rfl) ?_)) <;> ((try with_reducible intro K1 hK1); simp only [go_sem, ↓reduceIte, reduceCtorEq, nA, nB, nC, nD, nE, nF, Int.toNat_natCast, hTq, hrl, hcu, hki] <;> and_intros <;> first | (apply hK1; clear hK1 K1) | (intros; (omega)) | skip))))
    all_goals try with_reducible rfl
    skip
    all_goals try with_reducible rfl
    rotate_left
    ·exact fun h => h.elim
    refine (g_cmpI a1 b1 _).mono ?_
    rintro _ _ ⟨rfl, rfl⟩
    refine ⟨rfl, hK1 _ ?_⟩
    clear hK1 K1
    (repeat ((((with_reducible refine wM ?_ ?_)) <;> ((try with_reducible intro K1 hK1); simp only [go_sem, ↓reduceIte, reduceCtorEq, nA, nB, nC, nD, nE, nF, Int.toNat_natCast, hTq, hrl, hcu, hki] <;> and_intros <;> first | (apply hK1; clear hK1 K1) | skip))))
    all_goals try with_reducible rfl
    (repeat (((refine gM zM23 fun K1 hK1 => ?_; simp only [go_sem, ↓reduceIte, reduceCtorEq, nA, nB, nC, nD, nE, nF, hki] <;> and_intros))))
    all_goals try with_reducible rfl
    rotate_left
    ·exact fun h => h.elim
    refine (g_cmpI a2 b2 _).mono ?_
    rintro _ _ ⟨rfl, rfl⟩
    refine ⟨rfl, hK1 _ ?_⟩
    clear hK1 K1
    (repeat ((((with_reducible refine wM ?_ ?_)) <;> ((try with_reducible intro K1 hK1); simp only [go_sem, ↓reduceIte, reduceCtorEq, nA, nB, nC, nD, nE, nF, Int.toNat_natCast, hTq, hrl, hcu, hki] <;> and_intros))))
    all_goals try with_reducible rfl
    skip
    all_goals try with_reducible rfl
    refine ⟨.row 1 [[.v (.int .i64 (cmpI a1 b1))], [.v (.int .i64 (cmpI a2 b2))]] none, ?_, rfl, ?_⟩
    ·unfold qE
     simp only [go_sem, ↓reduceIte, reduceCtorEq, Nat.reduceAdd, Nat.reduceSub, Nat.reduceMul, Nat.reduceLT, Nat.reduceLeDiff, Nat.reduceEqDiff, hki]
     rfl
    refine hK1 _ ?_
    clear hK1 K1
    (repeat (((refine gM zM23 fun K1 hK1 => ?_; simp only [go_sem, ↓reduceIte, reduceCtorEq, nA, nB, nC, nD, nE, nF, hki] <;> and_intros))))
    rotate_left
    ·exact fun h => h.elim
    refine (g_or2 _ _ _).mono ?_
    rintro _ _ ⟨rfl, rfl⟩
    refine ⟨rfl, hK1 _ ?_⟩
    clear hK1 K1
    (repeat (first | refine gO rfl ?_ | (((with_reducible refine wM ?_ ?_)) <;> ((try with_reducible intro K1 hK1); simp only [go_sem, ↓reduceIte, reduceCtorEq, nA, nB, nC, nD, nE, nF, Int.toNat_natCast, hTq, hrl, hcu, hki] <;> and_intros <;> (apply hK1; clear hK1 K1)))))
    all_goals try with_reducible rfl
    skip
    all_goals try with_reducible rfl
    have hle := wayLe_cmp (a1, a2, a3) (b1, b2, b3)
    refine awp_cond (t := _) rfl (fun h9 => ?_) (fun h9 => ?_)
    ·have h9' : wayLe (a1, a2, a3) (b1, b2, b3) = true := by rw [hle]; exact h9
     (repeat (first | refine gO rfl ?_ | ((refine gM zM23 fun K1 hK1 => ?_; simp only [go_sem, ↓reduceIte, reduceCtorEq, nA, nB, nC, nD, nE, nF, Int.toNat_natCast, hTq, hrl] <;> and_intros <;> first | (apply hK1; clear hK1 K1) | (intros; (omega))))))
     rw [if_pos (.inr h9'), ← ek1] at hst
     refine ⟨g2 - 1, by omega, k + 1, n', (a1, a2, a3), by omega, by omega, (fun e => by omega), by omega, hNb, hst.symm, ?_⟩
     rw [← hs1]
     show St.cut _ _ ⟨_, _, ⟨_, upd _ _ (some (.cont 3 (List.set _ _ (_ :: _ :: _ :: List.drop 3 (List.getD _ _ _)))))⟩⟩ = _
     rw [hcu]; rfl
    ·have h9' : wayLe (a1, a2, a3) (b1, b2, b3) = false := by rw [hle]; exact h9
     (repeat (first | refine gO rfl ?_ | ((refine gM zM23 fun K1 hK1 => ?_; simp only [go_sem, ↓reduceIte, reduceCtorEq, nA, nB, nC, nD, nE, nF] <;> and_intros <;> first | (apply hK1; clear hK1 K1) | (intros; (omega))))))
     rw [if_neg (by rw [h9']; simp; omega), ← ek1] at hst
     exact ⟨g2 - 1, by omega, k + 1, n', (b1, b2, b3), by omega, by omega, (fun e => by omega), by omega, hcur, hst.symm, rfl⟩
  ·simp only [decide_eq_false_iff_not] at h6
   rw [inner_end _ _ _ _ (by omega)] at hinn
   (repeat (first | refine gO rfl ?_ | ((refine gM zM23 fun K1 hK1 => ?_; simp only [go_sem, ↓reduceIte, reduceCtorEq, nA, nB, nC, nD, nE, nF] <;> and_intros <;> first | (apply hK1; clear hK1 K1) | (intros; (omega))))))
   refine ⟨i, by omega, i, rfl, by omega, ?_⟩
   rw [← hend, ← hinn]; rfl
 ·simp only [decide_eq_false_iff_not] at h5
  have hj0 : j = 0 := by omega
  subst hj0
  (repeat (first | refine gO rfl ?_ | ((refine gM zM23 fun K1 hK1 => ?_; simp only [go_sem, ↓reduceIte, reduceCtorEq, nA, nB, nC, nD, nE, nF] <;> and_intros <;> (apply hK1; clear hK1 K1)))))
  simp only [Tryz.results111, go_sem, ↓reduceIte, reduceCtorEq, nA, nB, nC, nD, nE, nF]
  exact ⟨_, _, Weak.refl _, Hp.le.refl _, q, rfl, hq, rfl⟩
theorem flat_strs (l : List ByteArray) : (l.map encS).flatten = l.map fun x => AV.v (.string x) := by
 induction l with
 | nil => rfl
 | cons x q ih => simp [encS, ih]
theorem repL_str_inv {G : Gh} {l : List ByteArray} {us : List Value} (h : RepL G (l.map fun x => AV.v (.string x)) us) : us = l.map Value.string := by
 obtain ⟨h1, h2⟩ := h
 refine List.ext_getElem (by simpa using h1) fun j hj hj' => ?_
 have := h2 j (by simpa using hj') hj
 simp only [List.getElem_map] at this ⊢
 generalize us[j] = u at this
 obtain ⟨r, _⟩ := this
 cases r
 rfl
theorem g_joinS (l : List ByteArray) (kk : Option Nat) (sep : ByteArray) (h : Hp) (hn : l.length ≤ 1000000) (hz : (Lib.join (l.map (·.data.toList)) sep.data.toList).length ≤ 10000000) : ACalls Tryz.prog 34 [.row 1 (l.map encS) kk, .v (.string sep)] h (fun r h' => r = .v (.string (bsOf (Lib.join (l.map (·.data.toList)) sep.data.toList))) ∧ h' = h) := by
 refine acalls_mk (by kernel_rfl) fun G w vs hs hv ha => ?_
 have hv2 : vs.size = 2 := hv
 have r0 := ha 0 (by simp)
 have r1 := ha 1 (by simp)
 have hvs : vs = #[vs.getD 0 undef, vs.getD 1 undef] := by
  apply Array.ext (by simpa using hv2)
  intro j hj hj'
  simp only [List.size_toArray, List.length_cons, List.length_nil] at hj'
  have : j = 0 ∨ j = 1 := by omega
  rcases this with rfl | rfl <;> simp [Array.getD, hv2]
 rw [hvs]
 generalize vs.getD 0 undef = v0 at *
 generalize vs.getD 1 undef = v1 at *
 simp only [List.getElem_cons_zero, List.getElem_cons_succ] at r0 r1
 cases r1
 have fin : ∀ x e w', (e = .returned (.string x) ∧ RowKit.Below w.heap.size w w') → x = bsOf (Lib.join (l.map (·.data.toList)) sep.data.toList) → ∃ v, e = Ending.returned v ∧ ∃ r h' G', (r = AV.v (.string (bsOf (Lib.join (l.map (·.data.toList)) sep.data.toList))) ∧ h' = h) ∧ GLe G G' ∧ Fr G h w G' h' w' ∧ HSim G' h' w' ∧ Rep G' r v := by
  rintro x _ w' ⟨rfl, hb⟩ rfl
  have hb' : ∀ b, b < w.heap.size → w'.heap[b]? = w.heap[b]? := fun b hb2 => hb.block b hb2
  exact ⟨_, rfl, _, h, G, ⟨rfl, rfl⟩, GLe.refl _, Fr.below (Fr.refl _ _ _) hb' hb.os hb.tape hb.output hb.size, hs.below hb', .v _ rfl⟩
 rcases Rep.row_inv r0 with ⟨a, rfl, e⟩ | ⟨g, o, c, us, rfl, hc, hzz, hru, hu2⟩
 ·obtain rfl : l = [] := List.map_eq_nil_iff.1 e
  exact (Tryz.strings_Join_none a 0 sep w).mono fun e w' ⟨he, hw⟩ => fin _ e w' ⟨he, hw ▸ bel_id w⟩ rfl
 ·rw [flat_strs] at hru
  have hus := repL_str_inv hru
  subst hus
  rw [List.length_map] at hc ⊢
  have hcell : ∀ (j : Nat) x, l[j]? = some x → w.cell? ⟨g, o + j, none⟩ = some (.string x) := fun j x hx => hs.cell _ _ _ (hu2 j _ (by rw [List.getElem?_map, hx]; rfl))
  rcases Nat.eq_zero_or_pos l.length with h0 | h0
  ·obtain rfl : l = [] := List.eq_nil_of_length_eq_zero h0
   exact (Tryz.strings_Join_none _ c sep w).mono fun e w' ⟨he, hw⟩ => fin _ e w' ⟨he, hw ▸ bel_id w⟩ rfl
  ·exact (Tryz.strings_Join g o c l sep w hcell (World.block_lt_of_cell? w _ (hcell 0 _ (List.getElem?_eq_getElem h0))) (by omega) hc (by omega)).mono fun e w' ⟨he, hb⟩ => fin _ e w' ⟨he, hb⟩ rfl
def encLn (l : List Tok) : List AV := [.v (.string (bsOf l.flatten))]
theorem joinT_len : ∀ ws : List (List Tok), (joinT ws).length ≤ ws.flatten.length + ws.length
 | [] => by simp [joinT]
 | [w] => by simp [joinT]
 | w :: v :: l => by
  have := joinT_len (v :: l)
  rw [joinT_cons (by simp), List.length_append, List.length_cons, List.flatten_cons, List.length_append]
  simp only [List.length_cons] at this ⊢
  omega
theorem join_len {ws : List (List Tok)} (hts : ∀ w ∈ ws, ∀ t ∈ w, t ∈ toks) : (Lib.join (ws.map List.flatten) [32]).length ≤ 2 * (ws.flatten.length + ws.length) := by
 have hb : blT ∈ toks := by decide
 rw [joinT_lib]
 have h1 := flat_le2 (joinT ws) (fun t ht => by
  rcases mem_joinT ht with rfl | ⟨w, hw, h⟩
  ·exact hb
  ·exact hts w hw t h)
 have h2 := joinT_len ws
 omega
theorem drop_flat_le {α : Type} (l : List (List α)) (i n : Nat) : ((l.drop i).take n).flatten.length ≤ l.flatten.length := by
 have e : l.flatten = (l.take i).flatten ++ (((l.drop i).take n).flatten ++ ((l.drop i).drop n).flatten) := by
  rw [← List.flatten_append, List.take_append_drop, ← List.flatten_append, List.take_append_drop]
 have := congrArg List.length e
 simp only [List.length_append] at this
 omega
theorem g_paragraph (f : Fo) (kk : Option Nat) (ws : List (List Tok)) (blank wide : Int) (hb : 0 ≤ blank ∧ blank ≤ 1000) (hw : 1 ≤ wide ∧ wide ≤ 100000) (hn : ws.length ≤ 20000) (hM : ∀ w ∈ ws.map (sumW f), 0 ≤ w ∧ w ≤ 10000000)
  (hts : ∀ w ∈ ws, ∀ t ∈ w, t ∈ toks) (hfl : ws.flatten.length ≤ 100000) (h : Hp) :
  ACalls Tryz.prog 80 [.row 2 (ws.map (encWd f)) kk, .v (.int .i64 blank), .v (.int .i64 wide)] h
   (fun r h' => ∃ o, r = .row 1 ((paragraphT f blank wide ws).map encLn) o ∧ h'.H = h.H ∧ ∀ k x, h.T k = some x → h'.T k = some x) := by
 have hll : (ws.map (encWd f)).length = ws.length := List.length_map _
 have hLl : (ws.map (sumW f)).length = ws.length := List.length_map _
 have hbr := g_broken f kk ws blank wide hb hw hn hM h
 obtain ⟨L, hL⟩ : ∃ L, L = ws.map (sumW f) := ⟨_, rfl⟩
 unfold paragraphT
 rw [← hL] at hbr hLl ⊢
 refine gE Tryz.func80 rfl (by kernel_rfl) 56 rfl fun c => ?_
 (repeat (first | refine gO rfl ?_ | (refine gM zM24 fun K1 hK1 => ?_; simp only [go_sem, ↓reduceIte, reduceCtorEq, nA, nB, nC, nD, nE, nF, hll] <;> and_intros <;> (apply hK1; clear hK1 K1))))
 refine awp_cond (t := _) rfl (fun h5 => ?_) (fun h5 => ?_)
 ·have h0 : ws = [] := List.eq_nil_of_length_eq_zero (by simpa using h5)
  (repeat (first | refine gO rfl ?_ | (refine gM zM24 fun K1 hK1 => ?_; simp only [go_sem, ↓reduceIte, reduceCtorEq, nA, nB, nC, nD, nE, nF] <;> and_intros <;> first | (apply hK1; clear hK1 K1) | (intros; (decide)))))
  simp only [Tryz.results80, go_sem, ↓reduceIte, reduceCtorEq, nA, nB, nC, nD, nE, nF]
  exact ⟨_, _, Weak.refl _, Hp.le.refl _, none, by rw [if_pos h0]; rfl, rfl, fun _ _ e => e⟩
 have h0 : ws ≠ [] := fun e => by rw [e] at h5; simp at h5
 rw [if_neg h0]
 have hwl := waysT_len blank wide L
 rw [hLl] at hwl
 (repeat (first | refine gO rfl ?_ | (refine gM zM24 fun K1 hK1 => ?_; simp only [go_sem, ↓reduceIte, reduceCtorEq, nA, nB, nC, nD, nE, nF] <;> and_intros)))
 refine hbr.mono ?_
 rintro _ hz ⟨k, rfl, hk, hh⟩; apply hK1; clear hK1 K1 hbr; rw [hh]; clear hh hz
 obtain ⟨Y, hY⟩ : ∃ Y, Y = waysT blank wide L := ⟨_, rfl⟩
 rw [← hY] at hwl ⊢
 (repeat (first | refine gO rfl ?_ | (refine gM zM24 fun K1 hK1 => ?_; simp only [go_sem, ↓reduceIte, reduceCtorEq, nA, nB, nC, nD, nE, nF] <;> and_intros <;> (apply hK1; clear hK1 K1))))
 refine awp_own 8 1 rfl ⟨rfl, rfl⟩ (fun q hq => ?_)
 have hkq : k ≠ q := by rintro rfl; have h9 : upd h.T k _ k = none := hq; rw [upd_same] at h9; cases h9
 have hq0 : h.T q = none := (upd_other _ _ (Ne.symm hkq)).symm.trans hq
 skip
 refine awp_loopC (rl false [0, 1, 6, 3, 49]) 0 (fun g s => ∃ (i : Nat) (D : List (List Tok)) (g' : Nat) (h1 : Hp), g + i = ws.length ∧ ws.length - i ≤ g' ∧ D ++ paraT g' (ws.drop i) (Y.drop i) = paraT ws.length ws Y ∧ D.length ≤ i ∧
  h1.H = h.H ∧ (∀ k x, h.T k = some x → h1.T k = some x) ∧ h1.T k = some (.cont 3 (Y.map encY)) ∧ h1.T q = some (.tail D.length) ∧
  s = ⟨((.row 2 (ws.map (encWd f)) kk) :: (jnk 6 ((.arr 3 k (ws.length + 1)) :: (.row 1 (D.map encLn) (some q)) :: (.v (.int .i64 i)) :: (jnk 49 [])))), [], h1⟩) ws.length ⟨0, [], ws.length, ⟨h.H, upd (upd h.T k (some (.cont 3 (Y.map encY)))) q (some (.tail 0))⟩, by omega, by omega, rfl, by simp, rfl, ?_, ?_, ?_, rfl⟩ ?_
 ·intro k2 x e
  show upd (upd h.T k _) q _ k2 = _
  rw [upd_other _ _ (by rintro rfl; rw [hq0] at e; cases e), upd_other _ _ (by rintro rfl; rw [hk] at e; cases e), e]
 ·show upd (upd h.T k _) q _ k = _
  rw [upd_other _ _ hkq, upd_same]
 ·exact upd_same _ _ _
 rintro g _ ⟨i, D, g', h1, hg, hg', hD, hDl, hH1, hT1, hk1, hq1, rfl⟩
 (repeat (first | refine gO rfl ?_ | (refine gM zM24 fun K1 hK1 => ?_; simp only [go_sem, ↓reduceIte, reduceCtorEq, nA, nB, nC, nD, nE, nF, hll] <;> and_intros <;> (apply hK1; clear hK1 K1))))
 refine awp_cond (t := _) rfl (fun h6 => ?_) (fun h6 => ?_)
 ·simp only [decide_eq_true_eq] at h6
  have hi : i < ws.length := by omega
  have hfo := ways_first blank wide (L.drop i) (fun e => by have := congrArg List.length e; simp at this; omega) (0, 0, 0)
  have hfi : (Y.drop i).getD 0 (0, 0, 0) = wayAt blank wide L i := by rw [hY, waysT_drop _ _ _ _ (by omega)]; rfl
  have hyi : (Y.map encY).getD i [] = encY (wayAt blank wide L i) := by
   rw [← ways_getD blank wide L i (by omega) (0, 0, 0), ← hY, List.getD_eq_getElem?_getD, List.getElem?_map, List.getD_eq_getElem?_getD, List.getElem?_eq_getElem (by omega)]
   rfl
  change firstOk blank wide (L.drop i) (wayAt blank wide L i).2.2 at hfo
  generalize wayAt blank wide L i = y at hfo hyi hfi
  obtain ⟨y1, y2, fi⟩ := y
  obtain ⟨hf1, hf2, _⟩ := hfo
  rw [List.length_drop] at hf2
  change 1 ≤ fi at hf1
  change fi ≤ _ at hf2
  have hye : encY (y1, y2, fi) = [.v (.int .i64 y1), .v (.int .i64 y2), .v (.int .i64 fi)] := rfl
  rw [hye] at hyi
  have hyl : (Y.map encY).length = ws.length + 1 := by rw [List.length_map]; exact hwl
  have tn : ((i : Int) + (fi : Int)).toNat = i + fi := by omega
  obtain ⟨V, hV⟩ : ∃ V, V = (ws.drop i).take fi := ⟨_, rfl⟩
  have hVm : ((ws.map (encWd f)).drop i).take fi = V.map (encWd f) := by rw [hV, ← List.map_drop, ← List.map_take]
  have hVl : V.length = fi := by rw [hV, List.length_take, List.length_drop]; omega
  have hcl : (V.map (encWd f)).length = fi := by rw [List.length_map]; exact hVl
  have hVt : ∀ w ∈ V, ∀ t ∈ w, t ∈ toks := fun w hw => hts w (List.mem_of_mem_drop (List.mem_of_mem_take (hV ▸ hw)))
  have hVf : V.flatten.length ≤ 100000 := by rw [hV]; exact Nat.le_trans (drop_flat_le ws i fi) hfl
  (repeat (first | refine gO rfl ?_ | (refine gM zM24 fun K1 hK1 => ?_; simp only [go_sem, ↓reduceIte, reduceCtorEq, nA, nB, nC, nD, nE, nF, hll, hk1, hyl, hyi, Int.toNat_natCast, tn, Nat.add_sub_cancel_left, hVm, hcl, Option.toList_none, Option.toList_some, List.append_eq, List.nil_append, List.cons_append, uside] <;> and_intros <;> first | (apply hK1; clear hK1 K1) | (intros; (omega)))))
  refine awp_own 10 1 rfl ⟨rfl, rfl⟩ (fun p hp => ?_)
  replace hp : h1.T p = none := hp
  have hpk : k ≠ p := by rintro rfl; rw [hk1] at hp; cases hp
  have hpq : q ≠ p := by rintro rfl; rw [hq1] at hp; cases hp
  refine awp_loopC (rl false [0, 1, 6, 4, 23, 3, 22]) 0 (fun g s => ∃ (j : Nat), g + j = fi ∧
   s = ⟨((.row 2 (ws.map (encWd f)) kk) :: (jnk 6 ((.arr 3 k (ws.length + 1)) :: (.row 1 (D.map encLn) (some q)) :: (.v (.int .i64 i)) :: (.row 1 ((V.take j).map encLn) (some p)) :: (jnk 23 ((.row 2 (V.map (encWd f)) none) :: (.v (.int .i64 fi)) :: (.v (.int .i64 j)) :: (jnk 22 [])))))), [], ⟨h1.H, upd h1.T p (some (.tail j))⟩⟩) fi ⟨0, by omega, rfl⟩ ?_
  rintro g2 _ ⟨j, hg2, rfl⟩
  (repeat (first | refine gO rfl ?_ | (refine gM zM24 fun K1 hK1 => ?_; simp only [go_sem, ↓reduceIte, reduceCtorEq, nA, nB, nC, nD, nE, nF] <;> and_intros <;> (apply hK1; clear hK1 K1))))
  refine awp_cond (t := _) rfl (fun h7 => ?_) (fun h7 => ?_)
  ·simp only [decide_eq_true_eq] at h7
   have hjl : j < V.length := by omega
   have gx : (V.map (encWd f)).getD j [] = [.v (.string (bsOf V[j].flatten)), .v (.int .i64 (sumW f V[j]))] := by
    rw [List.getD_eq_getElem?_getD, List.getElem?_map, List.getElem?_eq_getElem hjl]; rfl
   have htk : (V.take (j + 1)).map encLn = (V.take j).map encLn ++ [[.v (.string (bsOf V[j].flatten))]] := by
    rw [List.take_succ_eq_append_getElem hjl, List.map_append]; rfl
   have hvl : ((V.take j).map encLn).length = j := by rw [List.length_map, List.length_take]; omega
   (repeat (first | refine gO rfl ?_ | (refine gM zM24 fun K1 hK1 => ?_; simp only [go_sem, ↓reduceIte, reduceCtorEq, nA, nB, nC, nD, nE, nF, Int.toNat_natCast, hcl, gx, hvl, upd_same, upd_upd] <;> and_intros <;> first | (apply hK1; clear hK1 K1) | (intros; first | omega | decide))))
   refine ⟨g2 - 1, by omega, j + 1, by omega, ?_⟩
   rw [htk]; rfl
  ·simp only [decide_eq_false_iff_not] at h7
   have hjf : j = V.length := by omega
   subst hjf
   rw [List.take_length]
   have hjn := g_joinS (V.map fun w => bsOf w.flatten) (some p) ⟨#[32]⟩
   have hm1 : (V.map fun w => bsOf w.flatten).map (·.data.toList) = V.map List.flatten := by rw [List.map_map]; rfl
   have hm2 : (V.map fun w => bsOf w.flatten).map encS = V.map encLn := by rw [List.map_map]; rfl
   have hz := join_len hVt
   rw [hm1, hm2, List.length_map, show (⟨#[32]⟩ : ByteArray).data.toList = [32] from rfl, joinT_lib] at hjn
   rw [joinT_lib] at hz
   (repeat (first | refine gO rfl ?_ | (refine gM zM24 fun K1 hK1 => ?_; simp only [go_sem, ↓reduceIte, reduceCtorEq, nA, nB, nC, nD, nE, nF] <;> and_intros)))
   refine (hjn _ (by omega) (by omega)).mono ?_; rintro _ hz ⟨rfl, hh⟩; apply hK1; clear hK1 K1; rw [hh]; clear hh hz
   have hqp : upd h1.T p (some (TO.tail V.length)) q = some (.tail D.length) := (upd_other _ _ hpq).trans hq1
   have hkp : upd (upd h1.T p (some (TO.tail V.length))) q (some (.tail (D.length + 1))) k = some (.cont 3 (Y.map encY)) := (upd_other _ _ hkq).trans ((upd_other _ _ hpk).trans hk1)
   have hml : (D.map encLn).length = D.length := List.length_map _
   (repeat (first | refine gO rfl ?_ | (refine gM zM24 fun K1 hK1 => ?_; simp only [go_sem, ↓reduceIte, reduceCtorEq, nA, nB, nC, nD, nE, nF, hqp, hml, hkp, hyl, hyi, Int.toNat_natCast] <;> and_intros <;> first | (apply hK1; clear hK1 K1) | (intros; first | omega | decide))))
   obtain ⟨g'', rfl⟩ : ∃ g'', g' = g'' + 1 := ⟨g' - 1, by omega⟩
   rw [paraT, if_neg (fun e => by have := congrArg List.length e; simp at this; omega), hfi, ← hV, List.drop_drop, List.drop_drop] at hD
   refine ⟨g - fi, by omega, i + fi, D ++ [joinT V], g'', ⟨h1.H, upd (upd h1.T p (some (.tail V.length))) q (some (.tail (D.length + 1)))⟩, by omega, by omega, ?_, ?_, hH1, ?_, hkp, ?_, ?_⟩
   ·rw [List.append_assoc]; exact hD
   ·rw [List.length_append]; simp only [List.length_cons, List.length_nil]; omega
   ·intro k2 x e
    have e1 := hT1 k2 x e
    show upd (upd h1.T p _) q _ k2 = _
    rw [upd_other _ _ (by rintro rfl; rw [hq0] at e; cases e), upd_other _ _ (by rintro rfl; rw [hp] at e1; cases e1), e1]
   ·rw [List.length_append]; exact upd_same _ _ _
   ·rw [List.map_append]; rfl
 ·simp only [decide_eq_false_iff_not] at h6
  have hie : i = ws.length := by omega
  subst hie
  have hpn : paraT g' (ws.drop ws.length) (Y.drop ws.length) = [] := by
   rw [List.drop_length]
   cases g' with
   | zero => rfl
   | succ g' => rw [paraT, if_pos rfl]
  rw [hpn, List.append_nil] at hD
  (repeat (first | refine gO rfl ?_ | (refine gM zM24 fun K1 hK1 => ?_; simp only [go_sem, ↓reduceIte, reduceCtorEq, nA, nB, nC, nD, nE, nF] <;> and_intros <;> (apply hK1; clear hK1 K1))))
  simp only [Tryz.results80, go_sem, ↓reduceIte, reduceCtorEq, nA, nB, nC, nD, nE, nF]
  exact ⟨_, _, Weak.refl _, Hp.le.refl _, some q, by rw [hD], hH1, hT1⟩
theorem ACalls.weakRes {P : Program} {f : Nat} {args : List AV} {h : Hp} {R R2 : AV → Hp → Prop} (hc : ACalls P f args h R) (hr : ∀ r h', R r h' → ∃ r2, Weak r r2 ∧ R2 r2 h') : ACalls P f args h R2 :=
 hc.gup fun r h' G w v hR hs hv => by
  obtain ⟨r2, hw, h2⟩ := hr r h' hR
  exact ⟨r2, h', G, h2, GLe.refl _, Fr.refl _ _ _, hs, hw _ _ hv⟩
def encPp (f : Fo) (ws : List (List Tok)) : List AV := [.row 2 (ws.map (encWd f)) none]
theorem g_isLong (f : Fo) (ws : List (List Tok)) (hn : ws.length ≤ 2000) (h : Hp) : ACalls Tryz.prog 79 [.row 2 (ws.map (encWd f)) none] h (fun r h' => r = .v (.bool false) ∧ h' = h) := by
 have hll : (ws.map (encWd f)).length = ws.length := List.length_map _
 have d1 : ((2000 : Int) < (ws.length : Int)) = False := eq_false (by omega)
 refine gE Tryz.func79 rfl (by kernel_rfl) 5 rfl fun c => ?_
 (repeat (first | refine gO rfl ?_ | (refine gR fun K1 hK1 => ?_; simp only [go_sem, ↓reduceIte, reduceCtorEq, nA, nB, nC, nD, nE, nF, hll, d1, decide_false] <;> and_intros <;> (apply hK1; clear hK1 K1))))
 simp only [Tryz.results79, go_sem, ↓reduceIte, reduceCtorEq, nA, nB, nC, nD, nE, nF]
 exact ⟨_, _, Weak.refl _, Hp.le.refl _, rfl, rfl⟩
theorem g_idxLong (f : Fo) (kk : Option Nat) (W : List (List (List Tok))) (hl : W.length ≤ 100000) (fid : Nat) (h : Hp) (hW : ∀ ws ∈ W, ACalls Tryz.prog fid [.row 2 (ws.map (encWd f)) none] h (fun r h' => r = .v (.bool false) ∧ h' = h)) :
  ACalls Tryz.prog 110 [.row 1 (W.map (encPp f)) kk, .fn fid []] h (fun r h' => r = .v (.int .i64 (-1)) ∧ h' = h) := by
 have hll : (W.map (encPp f)).length = W.length := List.length_map _
 refine gE Tryz.func110 rfl (by kernel_rfl) 17 rfl fun c => ?_
 (repeat (first | refine gO rfl ?_ | (refine gR fun K1 hK1 => ?_; simp only [go_sem, ↓reduceIte, reduceCtorEq, nA, nB, nC, nD, nE, nF, hll] <;> and_intros <;> (apply hK1; clear hK1 K1))))
 refine awp_loopC (rl false [0, 2, 5, 2, 10]) 0 (fun g s => ∃ j : Nat, g + j = W.length ∧ s = ⟨((.row 1 (W.map (encPp f)) kk) :: (.fn fid []) :: (jnk 5 ((.v (.int .i64 W.length)) :: (.v (.int .i64 j)) :: (jnk 10 [])))), [], h⟩) W.length ⟨0, by omega, rfl⟩ ?_
 rintro g _ ⟨j, hj, rfl⟩
 (repeat (first | refine gO rfl ?_ | (refine gR fun K1 hK1 => ?_; simp only [go_sem, ↓reduceIte, reduceCtorEq, nA, nB, nC, nD, nE, nF] <;> and_intros <;> (apply hK1; clear hK1 K1))))
 refine awp_cond (t := _) rfl (fun h1 => ?_) (fun h1 => ?_)
 ·simp only [decide_eq_true_eq] at h1
  have hjk : j < W.length := by omega
  have hg : (W.map (encPp f)).getD j [] = [.row 2 (W[j].map (encWd f)) none] := by rw [List.getD_eq_getElem?_getD, List.getElem?_map, List.getElem?_eq_getElem hjk]; rfl
  (repeat (first | refine gO rfl ?_ | (refine gR fun K1 hK1 => ?_; simp only [go_sem, ↓reduceIte, reduceCtorEq, nA, nB, nC, nD, nE, nF, Int.toNat_natCast, hg, hll] <;> and_intros <;> first | (apply hK1; clear hK1 K1) | (intros; (omega)) | skip)))
  refine (hW W[j] (List.getElem_mem _)).mono ?_; rintro _ hz ⟨rfl, hh⟩; apply hK1; clear hK1 K1; rw [hh]; clear hh hz
  (repeat ((refine gO rfl ?_)))
  refine awp_cond (t := _) rfl (fun h2 => by cases h2) (fun _ => ?_)
  (repeat (first | refine gO rfl ?_ | (refine gR fun K1 hK1 => ?_; simp only [go_sem, ↓reduceIte, reduceCtorEq, nA, nB, nC, nD, nE, nF] <;> and_intros <;> first | (apply hK1; clear hK1 K1) | (intros; (omega)))))
  exact ⟨g - 1, by omega, j + 1, by omega, rfl⟩
 ·simp only [decide_eq_false_iff_not] at h1
  (repeat (first | refine gO rfl ?_ | (refine gR fun K1 hK1 => ?_; simp only [go_sem, ↓reduceIte, reduceCtorEq, nA, nB, nC, nD, nE, nF] <;> and_intros <;> (apply hK1; clear hK1 K1))))
  simp only [Tryz.results110, go_sem, ↓reduceIte, reduceCtorEq, nA, nB, nC, nD, nE, nF]
  exact ⟨_, _, Weak.refl _, Hp.le.refl _, rfl, rfl⟩
theorem g_anyLong (f : Fo) (kk : Option Nat) (W : List (List (List Tok))) (hl : W.length ≤ 100000) (fid : Nat) (h : Hp) (hW : ∀ ws ∈ W, ACalls Tryz.prog fid [.row 2 (ws.map (encWd f)) none] h (fun r h' => r = .v (.bool false) ∧ h' = h)) :
  ACalls Tryz.prog 78 [.row 1 (W.map (encPp f)) kk, .fn fid []] h (fun r h' => r = .v (.bool false) ∧ h' = h) := by
 refine gE Tryz.func78 rfl (by kernel_rfl) 7 rfl fun c => ?_
 (repeat (first | refine gO rfl ?_ | (refine gR fun K1 hK1 => ?_; simp only [go_sem, ↓reduceIte, reduceCtorEq, nA, nB, nC, nD, nE, nF] <;> and_intros <;> first | (apply hK1; clear hK1 K1) | skip)))
 refine (g_idxLong f kk W hl fid h hW).mono ?_; rintro _ hz ⟨rfl, hh⟩; apply hK1; clear hK1 K1; rw [hh]; clear hh hz
 (repeat (first | refine gO rfl ?_ | (refine gR fun K1 hK1 => ?_; simp only [go_sem, ↓reduceIte, reduceCtorEq, nA, nB, nC, nD, nE, nF] <;> and_intros <;> (apply hK1; clear hK1 K1))))
 simp only [Tryz.results78, go_sem, ↓reduceIte, reduceCtorEq, nA, nB, nC, nD, nE, nF]
 exact ⟨_, _, Weak.refl _, Hp.le.refl _, by simp, rfl⟩
theorem words_one {f : Fo} {wide : Int} {p w : List Tok} (h : w ∈ wordsT f wide p) : w.length ≤ p.length := by
 have h1 := List.Sublist.length_le (List.sublist_flatten_of_mem h)
 rw [wordsT_flat] at h1
 exact Nat.le_trans h1 (List.length_filter_le _ _)
theorem words_flat (f : Fo) (wide : Int) (p : List Tok) : (wordsT f wide p).flatten.length ≤ p.length := by
 rw [wordsT_flat]; exact List.length_filter_le _ _
theorem para_len : ∀ (g : Nat) (ws : List (List Tok)) (ys : List Way), (paraT g ws ys).length ≤ g
 | 0, _, _ => by simp [paraT]
 | g + 1, ws, ys => by
  rw [paraT]
  split
  ·simp
  ·have := para_len g (ws.drop (ys.getD 0 (0, 0, 0)).2.2) (ys.drop (ys.getD 0 (0, 0, 0)).2.2)
   simp only [List.length_cons]; omega
theorem paragraph_len (f : Fo) (blank wide : Int) (ws : List (List Tok)) : (paragraphT f blank wide ws).length ≤ ws.length + 1 := by
 unfold paragraphT
 split
 ·simp
 ·have := para_len ws.length ws (waysT blank wide (ws.map (sumW f))); omega
theorem flatMap_len {α β : Type} (F : α → List β) (m : Nat) : ∀ l : List α, (∀ x ∈ l, (F x).length ≤ m) → (l.flatMap F).length ≤ m * l.length
 | [], _ => by simp
 | x :: l, h => by
  have h1 := h x (by simp)
  have h2 := flatMap_len F m l (fun y hy => h y (by simp [hy]))
  rw [List.flatMap_cons, List.length_append, List.length_cons, Nat.mul_add]
  omega
theorem piece_len {c : Tok} {ts p : List Tok} (h : p ∈ splitT c ts) : p.length ≤ ts.length := by
 have h1 := List.Sublist.length_le (List.sublist_flatten_of_mem h)
 rw [splitT_flat] at h1
 exact Nat.le_trans h1 (List.length_filter_le _ _)
theorem g_linesOf (f : Fo) (kk : Option Nat) (ts : List Tok) (wide : Int) (hts : ∀ t ∈ ts, t ∈ toks) (hn : ts.length ≤ 2000) (hw : 1 ≤ wide ∧ wide ≤ 100000) (hg : Good f) (k0 : Nat) (h : Hp) (hT : h.T k0 = some (.glb tabU)) :
  ACalls Tryz.prog 51 [encFo f kk, .v (.string (bsOf ts.flatten)), .v (.int .i64 wide)] h (fun r h' => r = .tup [.row 1 ((linesT f wide ts).map encLn) none, .v (.int .i64 0)] ∧ Gr h h') := by
 have hfl : ∀ x, (encFo f x) = .agg [.v (.string f.key), .v (.int .i64 f.hi), .v (.int .i64 f.ot), .row 3 (f.ws.map encW) x] := fun _ => rfl
 have hf2 := flat_le2 ts hts
 have hsp := g_split ts.flatten 10 (by omega)
 rw [splitB_toks 10 lf_ok ts hts] at hsp
 obtain ⟨P, hP⟩ : ∃ P, P = splitT [10] ts := ⟨_, rfl⟩
 have hml : ((P.map List.flatten).map encL1).length = P.length := by rw [List.length_map, List.length_map]
 have hsl : P.length ≤ ts.length + 1 := by rw [hP]; exact splitT_len _ _
 have hPt : ∀ p ∈ P, (∀ t ∈ p, t ∈ toks) ∧ p.length ≤ ts.length := fun p hp => ⟨fun t ht => hts t (splitT_mem (hP ▸ hp) t ht).1, piece_len (hP ▸ hp)⟩
 have hlT : linesT f wide ts = P.flatMap fun p => paragraphT f (widS f blT) wide (wordsT f wide p) := by rw [hP]; rfl
 have hwo := g_wideOf f kk blT (by decide) hg.ws (by have := hg.len; omega) k0 h hT
 rw [hfl] at hwo
 have hbl := hg.fob.widS blT
 rw [← hP] at hsp
 rw [hlT]
 clear hlT
 generalize widS f blT = blank at *
 refine gE Tryz.func51 rfl (by kernel_rfl) 45 rfl fun c => ?_
 (repeat (first | refine gO rfl ?_ | (refine gR fun K1 hK1 => ?_; simp only [go_sem, ↓reduceIte, reduceCtorEq, nA, nB, nC, nD, nE, nF, hfl] <;> and_intros <;> first | (apply hK1; clear hK1 K1) | skip)))
 refine hwo.mono ?_; rintro _ hz ⟨rfl, hh⟩; apply hK1; clear hK1 K1; rw [hh]; clear hh hz
 (repeat (first | refine gO rfl ?_ | (refine gR fun K1 hK1 => ?_; simp only [go_sem, ↓reduceIte, reduceCtorEq, nA, nB, nC, nD, nE, nF] <;> and_intros <;> first | (apply hK1; clear hK1 K1) | skip)))
 refine (hsp h).mono ?_; rintro _ hz ⟨rfl, hh⟩; apply hK1; clear hK1 K1; rw [hh]; clear hh hz
 (repeat (first | refine gO rfl ?_ | (refine gR fun K1 hK1 => ?_; simp only [go_sem, ↓reduceIte, reduceCtorEq, nA, nB, nC, nD, nE, nF, hml] <;> and_intros <;> (apply hK1; clear hK1 K1))))
 refine awp_own 9 1 rfl ⟨rfl, rfl⟩ (fun q hq => ?_)
 replace hq : h.T q = none := hq
 refine awp_loopC (rl false [2, 2, 4, 2, 8, 3, 27]) 0 (fun g s => ∃ (j : Nat) (h1 : Hp), g + j = P.length ∧ Gr h h1 ∧ h1.T q = some (.tail j) ∧
  s = ⟨(AV.junk :: AV.junk :: ((.v (.int .i64 wide)) :: (.ref [.v (.string f.key), .v (.int .i64 f.hi), .v (.int .i64 f.ot), .row 3 (f.ws.map encW) kk] 0) :: (jnk 4 ((.v (.int .i64 blank)) :: (.row 1 (((P.take j).map (wordsT f wide)).map (encPp f)) (some q)) :: (jnk 8 ((.row 1 ((P.map List.flatten).map encL1) none) :: (.v (.int .i64 P.length)) :: (.v (.int .i64 j)) :: (jnk 27 []))))))), [], h1⟩) P.length ⟨0, ⟨h.H, upd h.T q (some (.tail 0))⟩, by omega, Gr.put hq _, upd_same _ _ _, rfl⟩ ?_
 rintro g _ ⟨j, h1, hj, hgr, hq1, rfl⟩
 (repeat (first | refine gO rfl ?_ | (refine gR fun K1 hK1 => ?_; simp only [go_sem, ↓reduceIte, reduceCtorEq, nA, nB, nC, nD, nE, nF] <;> and_intros <;> (apply hK1; clear hK1 K1))))
 refine awp_cond (t := _) rfl (fun h5 => ?_) (fun h5 => ?_)
 ·simp only [decide_eq_true_eq] at h5
  have hjl : j < P.length := by omega
  have gx := row_piece P j hjl
  have hls : ∀ b, (encL1 b).length = 1 := fun _ => rfl
  have hgs : ∀ b d, (encL1 b).getD 0 d = .v (.string (bsOf b)) := fun _ _ => rfl
  obtain ⟨hp1, hp2⟩ := hPt _ (List.getElem_mem hjl)
  have hwd := (g_wordsOf f kk P[j] wide hp1 (by omega) hw hg k0 h1 (hgr.2 _ _ hT)).weakRes (R2 := fun r h' => r = .row 2 ((wordsT f wide P[j]).map (encWd f)) none ∧ Gr h1 h') (by
   rintro _ h' ⟨q2, rfl, _, hH, hT2⟩
   exact ⟨_, Weak.row _ _ _, rfl, hH, hT2⟩)
  rw [hfl] at hwd
  have htk : ((P.take (j + 1)).map (wordsT f wide)).map (encPp f) = ((P.take j).map (wordsT f wide)).map (encPp f) ++ [[.row 2 ((wordsT f wide P[j]).map (encWd f)) none]] := by
   rw [List.take_succ_eq_append_getElem hjl, List.map_append, List.map_append]; rfl
  have hvl : (((P.take j).map (wordsT f wide)).map (encPp f)).length = j := by rw [List.length_map, List.length_map, List.length_take]; omega
  (repeat (first | refine gO rfl ?_ | (refine gR fun K1 hK1 => ?_; simp only [go_sem, ↓reduceIte, reduceCtorEq, nA, nB, nC, nD, nE, nF, hml, Int.toNat_natCast, gx, hls, hgs] <;> and_intros <;> first | (apply hK1; clear hK1 K1) | (intros; (omega)) | skip)))
  refine hwd.mono ?_
  rintro _ h2 ⟨rfl, hgr2⟩; apply hK1; clear hK1 K1
  have hq2 := hgr2.2 _ _ hq1
  (repeat (first | refine gO rfl ?_ | (refine gR fun K1 hK1 => ?_; simp only [go_sem, ↓reduceIte, reduceCtorEq, nA, nB, nC, nD, nE, nF, hvl, hq2] <;> and_intros <;> first | (apply hK1; clear hK1 K1) | (intros; first | omega | decide))))
  refine ⟨g - 1, by omega, j + 1, ⟨h2.H, upd h2.T q (some (.tail (j + 1)))⟩, by omega, ⟨hgr2.1.trans hgr.1, fun k x e => ?_⟩, upd_same _ _ _, ?_⟩
  ·show upd h2.T q _ k = _
   rw [upd_other _ _ (by rintro rfl; rw [hq] at e; cases e)]
   exact hgr2.2 _ _ (hgr.2 _ _ e)
  ·rw [htk]; rfl
 simp only [decide_eq_false_iff_not] at h5
 have hjl : j = P.length := by omega
 subst hjl
 rw [List.take_length]
 have hal := g_anyLong f (some q) (P.map (wordsT f wide)) (by rw [List.length_map]; omega) 79 h1 (fun ws hws => by
  obtain ⟨p, hp, rfl⟩ := List.mem_map.1 hws
  have := wordsT_len f wide p
  have := (hPt p hp).2
  exact g_isLong f _ (by omega) h1)
 have hwl : ((P.map (wordsT f wide)).map (encPp f)).length = P.length := by rw [List.length_map, List.length_map]
 (repeat (first | refine gO rfl ?_ | (refine gR fun K1 hK1 => ?_; simp only [go_sem, ↓reduceIte, reduceCtorEq, nA, nB, nC, nD, nE, nF] <;> and_intros)))
 refine hal.mono ?_; rintro _ hz ⟨rfl, hh⟩; apply hK1; clear hK1 K1; rw [hh]; clear hh hz
 (repeat ((refine gO rfl ?_)))
 refine awp_cond (t := _) rfl (fun h6 => by cases h6) (fun _ => ?_)
 (repeat (first | refine gO rfl ?_ | (refine gR fun K1 hK1 => ?_; simp only [go_sem, ↓reduceIte, reduceCtorEq, nA, nB, nC, nD, nE, nF, hwl] <;> and_intros <;> (apply hK1; clear hK1 K1))))
 refine awp_own 12 1 rfl ⟨rfl, rfl⟩ (fun p hp => ?_)
 replace hp : h1.T p = none := hp
 refine awp_loopC (rl false [2, 1, 5, 1, 3, 1, 21, 3, 11]) 0 (fun g s => ∃ (j : Nat) (h2 : Hp), g + j = P.length ∧ Gr h1 h2 ∧ h2.T p = some (.tail ((P.take j).flatMap fun p => paragraphT f blank wide (wordsT f wide p)).length) ∧
  s = ⟨(AV.junk :: AV.junk :: ((.v (.int .i64 wide)) :: (jnk 5 ((.v (.int .i64 blank)) :: (jnk 3 ((.row 1 (((P.take j).flatMap fun p => paragraphT f blank wide (wordsT f wide p)).map encLn) (some p)) :: (jnk 21 ((.row 1 ((P.map (wordsT f wide)).map (encPp f)) (some q)) :: (.v (.int .i64 P.length)) :: (.v (.int .i64 j)) :: (jnk 11 []))))))))), [], h2⟩) P.length ⟨0, ⟨h1.H, upd h1.T p (some (.tail 0))⟩, by omega, Gr.put hp _, upd_same _ _ _, rfl⟩ ?_
 rintro g2 _ ⟨j, h2, hj2, hgr2, hp2, rfl⟩
 (repeat (first | refine gO rfl ?_ | (refine gR fun K1 hK1 => ?_; simp only [go_sem, ↓reduceIte, reduceCtorEq, nA, nB, nC, nD, nE, nF] <;> and_intros <;> (apply hK1; clear hK1 K1))))
 refine awp_cond (t := _) rfl (fun h7 => ?_) (fun h7 => ?_)
 ·simp only [decide_eq_true_eq] at h7
  have hjl : j < P.length := by omega
  have gx : ((P.map (wordsT f wide)).map (encPp f)).getD j [] = [.row 2 ((wordsT f wide P[j]).map (encWd f)) none] := by
   rw [List.getD_eq_getElem?_getD, List.getElem?_map, List.getElem?_map, List.getElem?_eq_getElem hjl]; rfl
  obtain ⟨ht1, ht2⟩ := hPt _ (List.getElem_mem hjl)
  have hwn := wordsT_len f wide P[j]
  have hpa := (g_paragraph f none (wordsT f wide P[j]) blank wide hbl hw (by omega) (fun w hw' => by
   obtain ⟨x, hx, rfl⟩ := List.mem_map.1 hw'
   have h1 := hg.fob.sum x
   have h2 := words_one hx
   omega) (fun w hw' t ht => ht1 t (wordsT_mem hw' t ht).1) (by have := words_flat f wide P[j]; omega) h2).weakRes (R2 := fun r h' => r = .row 1 ((paragraphT f blank wide (wordsT f wide P[j])).map encLn) none ∧ Gr h2 h') (by
   rintro _ h' ⟨o, rfl, hH, hT2⟩
   exact ⟨_, Weak.row _ _ _, rfl, hH, hT2⟩)
  have hpl := paragraph_len f blank wide (wordsT f wide P[j])
  have hfm := flatMap_len (fun p => paragraphT f blank wide (wordsT f wide p)) 2001 (P.take j) (fun p hp => by
   have h1 := paragraph_len f blank wide (wordsT f wide p)
   have h2 := wordsT_len f wide p
   have h3 := (hPt p (List.mem_of_mem_take hp)).2
   omega)
  rw [List.length_take] at hfm
  have htk : ((P.take (j + 1)).flatMap fun p => paragraphT f blank wide (wordsT f wide p)) = ((P.take j).flatMap fun p => paragraphT f blank wide (wordsT f wide p)) ++ paragraphT f blank wide (wordsT f wide P[j]) := by
   rw [List.take_succ_eq_append_getElem hjl, List.flatMap_append]; simp
  generalize ((P.take j).flatMap fun p => paragraphT f blank wide (wordsT f wide p)) = D at *
  generalize paragraphT f blank wide (wordsT f wide P[j]) = E at *
  have hDl : (D.map encLn).length = D.length := List.length_map _
  have hEl : (E.map encLn).length = E.length := List.length_map _
  (repeat (first | refine gO rfl ?_ | (refine gR fun K1 hK1 => ?_; simp only [go_sem, ↓reduceIte, reduceCtorEq, nA, nB, nC, nD, nE, nF, hwl, Int.toNat_natCast, gx] <;> and_intros <;> first | (apply hK1; clear hK1 K1) | (intros; (omega)) | skip)))
  refine hpa.mono ?_
  rintro _ h3 ⟨rfl, hgr3⟩; apply hK1; clear hK1 K1
  have hp3 := hgr3.2 _ _ hp2
  (repeat (first | refine gO rfl ?_ | (refine gR fun K1 hK1 => ?_; simp only [go_sem, ↓reduceIte, reduceCtorEq, nA, nB, nC, nD, nE, nF, hDl, hEl, hp3, true_or] <;> and_intros <;> first | (apply hK1; clear hK1 K1) | (intros; (omega)))))
  refine ⟨g2 - 1, by omega, j + 1, ⟨h3.H, upd h3.T p (some (.tail (D.length + E.length)))⟩, by omega, ⟨hgr3.1.trans hgr2.1, fun k x e => ?_⟩, ?_, ?_⟩
  ·show upd h3.T p _ k = _
   rw [upd_other _ _ (by rintro rfl; rw [hp] at e; cases e)]
   exact hgr3.2 _ _ (hgr2.2 _ _ e)
  ·rw [htk, List.length_append]; exact upd_same _ _ _
  ·rw [htk, List.map_append]; rfl
 ·simp only [decide_eq_false_iff_not] at h7
  have hjl : j = P.length := by omega
  subst hjl
  rw [List.take_length]
  (repeat (first | refine gO rfl ?_ | (refine gR fun K1 hK1 => ?_; simp only [go_sem, ↓reduceIte, reduceCtorEq, nA, nB, nC, nD, nE, nF] <;> and_intros <;> (apply hK1; clear hK1 K1))))
  simp only [Tryz.results51, go_sem, ↓reduceIte, reduceCtorEq, nA, nB, nC, nD, nE, nF]
  exact ⟨_, _, Weak.tup1 (Weak.row _ _ _) (Weak.refl _), Hp.le.refl _, rfl, hgr.trans hgr2⟩
theorem upd_comm {α : Type} (f : Nat → Option α) {i j : Nat} (x y : Option α) (h : i ≠ j) : upd (upd f i x) j y = upd (upd f j y) i x := by
 funext q
 by_cases e : q = j
 ·subst e; rw [upd_same, upd_other _ _ (fun e => h e.symm), upd_same]
 ·rw [upd_other _ _ e]
  by_cases e2 : q = i
  ·subst e2; rw [upd_same, upd_same]
  ·rw [upd_other _ _ e2, upd_other _ _ e2, upd_other _ _ e]
theorem st_upd {h : Hp} {i b k : Nat} {l : List Int} {a : Int} {o : Option AO} {t : Option TO} (n : b ≠ i) : (⟨upd (h.st i l a).H b o, upd (h.st i l a).T k t⟩ : Hp) = Hp.st ⟨upd h.H b o, upd h.T k t⟩ i l a := by
 simp only [Hp.st]
 congr 1
 exact (upd_comm _ _ _ n).symm
theorem st_updH {h : Hp} {i b : Nat} {l : List Int} {a : Int} {o : Option AO} (n : b ≠ i) : (⟨upd (h.st i l a).H b o, h.T⟩ : Hp) = Hp.st ⟨upd h.H b o, h.T⟩ i l a := by
 simp only [Hp.st]
 congr 1
 exact (upd_comm _ _ _ n).symm
open Go.RowKit in
theorem bString_nil (b : Nat) (p : Value) (w : World) (hbk : w.heap[b]? = some (.cells #[p, .slice none 0 0] 74 (0, 0))) :
  Calls Tryz.prog 42 #[.pointer (some ⟨b, 0, none⟩)] w fun e w' => e = .returned (.string ⟨#[]⟩) ∧ w' = w.drew := by
 have c1 : w.drew.cell? ⟨b, 1, none⟩ = some (.slice none 0 0) := by
  have : w.drew.heap[b]? = some (.cells #[p, .slice none 0 0] 74 (0, 0)) := hbk
  rw [Lib.cell_of_heap this]; rfl
 have hSD : (Builtin.unsafeSliceData_ #[72] 116 #[.slice none 0 0]).run Tryz.prog w.drew = .ok (.pointer none) w.drew := rfl
 have hUS : (Builtin.unsafeString_ #[116, 3] 9 #[.pointer none, .int .i64 0]).run Tryz.prog w.drew = .ok (.string .empty) w.drew := Lib.run_unsafeString_none _ _ _ _ _
 have mixed : Tryz.prog.follows .mixedOrders = true := by kernel_rfl
 go_enter Tryz.func42, Tryz.ntmps42
 go_wp2
 go_region_o
 all_goals (go_wp2; go_ret; exact ⟨rfl, rfl⟩)
theorem g_bString0 (b : Nat) (h : Hp) (hb : h.H b = some (.obj 74 [.v (.pointer none), .v (.slice none 0 0)])) :
  ACalls Tryz.prog 42 [.ptr b 0] h (fun r h' => r = .v (.string ⟨#[]⟩) ∧ h' = h) := by
 refine acalls_mk (by kernel_rfl) fun G w vs hs hv ha => ?_
 obtain ⟨p, rfl, hat⟩ := one_ptr (h := h) (w := w) hv ha
 obtain ⟨p', ob, e', hh, ⟨us, rfl, hrr⟩, hval⟩ := hs.obj b _ hb
 rw [hat] at e'; cases e'
 obtain ⟨x, y, rfl, hx, hy⟩ := two_cells hrr
 cases hx
 cases hy
 refine (bString_nil p _ w hh).mono ?_
 rintro e w' ⟨rfl, rfl⟩
 have hbel : RowKit.Below w.heap.size w w.drew := RowKit.Below.drew (RowKit.Below.refl _ w)
 have hb' : ∀ b, b < w.heap.size → w.drew.heap[b]? = w.heap[b]? := fun _ _ => rfl
 exact ⟨_, rfl, .v (.string ⟨#[]⟩), h, G, ⟨rfl, rfl⟩, GLe.refl _, Fr.below (Fr.refl _ _ _) hb' hbel.os hbel.tape hbel.output hbel.size, hs.below hb', .v _ rfl⟩
def eightT : List (List Tok) := [[[97], [97], [97]], [[98], [98]], [[105]], [[99], [99], [99], [99]], [[97], [98], [99], [100], [101], [102], [103], [104], [105]], [[195, 169], [105]], [[255]], [[97]]]
def sixT : List (List Tok) := [[[32]], [[32]], [[32]], [[32], [32]], [[10]], [[32], [10]]]
theorem eightT_ok : ∀ x ∈ eightT, (∀ t ∈ x, t ∈ toks) ∧ 1 ≤ x.length ∧ x.length ≤ 9 := by decide
theorem sixT_ok : ∀ x ∈ sixT, (∀ t ∈ x, t ∈ toks) ∧ 1 ≤ x.length ∧ x.length ≤ 2 := by decide
def bsT (x : List Tok) : ByteArray := bsOf x.flatten
theorem flat_ge (ts : List Tok) (hts : ∀ t ∈ ts, t ∈ toks) : ts.length ≤ ts.flatten.length := by
 induction ts with
 | nil => simp
 | cons t ts ih =>
  have := toks_pos t (hts t (by simp))
  have := ih fun x hx => hts x (by simp [hx])
  simp only [List.flatten_cons, List.length_append, List.length_cons]
  omega
theorem g_wording (i : Nat) (l : List Int) (a : Int) (h : Hp) (hl : SOk l) (ha : 0 ≤ a ∧ a ≤ 1000000) :
  ACalls Tryz.prog 8 [.ptr i 0] (h.st i l a) (fun r h' => ∃ (ts : List Tok) (a' : Int), r = .v (.string (bsOf ts.flatten)) ∧ (∀ t ∈ ts, t ∈ toks) ∧ ts.length ≤ 200 ∧ (a ≤ a' ∧ a' ≤ a + 30) ∧ h' = h.st i l a') := by
 have hsw := fun a h ha => g_some i l a (eightT.map bsT) none h hl ha (by decide)
 have hsg := fun a h ha => g_some i l a (sixT.map bsT) none h hl ha (by decide)
 have e1 : (eightT.map bsT).map encS = [[.v (.string ⟨#[97, 97, 97]⟩)], [.v (.string ⟨#[98, 98]⟩)], [.v (.string ⟨#[105]⟩)], [.v (.string ⟨#[99, 99, 99, 99]⟩)], [.v (.string ⟨#[97, 98, 99, 100, 101, 102, 103, 104, 105]⟩)], [.v (.string ⟨#[195, 169, 105]⟩)], [.v (.string ⟨#[255]⟩)], [.v (.string ⟨#[97]⟩)]] := rfl
 have e2 : (sixT.map bsT).map encS = [[.v (.string ⟨#[32]⟩)], [.v (.string ⟨#[32]⟩)], [.v (.string ⟨#[32]⟩)], [.v (.string ⟨#[32, 32]⟩)], [.v (.string ⟨#[10]⟩)], [.v (.string ⟨#[32, 10]⟩)]] := rfl
 rw [e1] at hsw
 rw [e2] at hsg
 refine gE Tryz.func8 rfl (by kernel_rfl) 17 rfl fun c => ?_
 (first | refine gO rfl ?_ | (refine gM zM25 fun K1 hK1 => ?_; simp only [go_sem, ↓reduceIte, reduceCtorEq, nA, nB, nC, nD, nE, nF] <;> and_intros <;> first | (apply hK1; clear hK1 K1) | (intros; first | omega | decide | (simp_all <;> omega)) | skip)); (first | refine gO rfl ?_ | (refine gM zM25 fun K1 hK1 => ?_; simp only [go_sem, ↓reduceIte, reduceCtorEq, nA, nB, nC, nD, nE, nF] <;> and_intros <;> first | (apply hK1; clear hK1 K1) | (intros; first | omega | decide | (simp_all <;> omega)) | skip))
 refine awp_seq (awp_allocT tyok rfl rfl ty74 (fun b hb => ?_))
 replace hb : (h.st i l a).H b = none := hb
 have hbi : b ≠ i := by rintro rfl; rw [st_at] at hb; cases hb
 have hb0 : h.H b = none := by rw [← hb]; exact (upd_other _ _ hbi).symm
 refine (?_ : Awp _ c _ _ ⟨((.ptr i 0) :: AV.junk :: ((.v (.string ⟨#[]⟩)) :: (.ptr b 0) :: (jnk 14 []))), [], ⟨upd (h.st i l a).H b (some (.obj 74 [.v (.pointer none), .v (.slice none 0 0)])), h.T⟩⟩)
 rw [st_updH hbi]
 (repeat (first | refine gO rfl ?_ | (refine gM zM25 fun K1 hK1 => ?_; simp only [go_sem, ↓reduceIte, reduceCtorEq, nA, nB, nC, nD, nE, nF] <;> and_intros <;> first | (apply hK1; clear hK1 K1) | (intros; first | omega | decide | (simp_all <;> omega)) | skip)))
 refine (g_next i l a 12 _ hl (by omega) (by omega)).mono ?_
 rintro _ h9 ⟨x, hx, rfl, rfl⟩
 apply hK1; clear hK1 K1
 (repeat (first | refine gO rfl ?_ | (refine gM zM25 fun K1 hK1 => ?_; simp only [go_sem, ↓reduceIte, reduceCtorEq, nA, nB, nC, nD, nE, nF] <;> and_intros <;> first | (apply hK1; clear hK1 K1) | (intros; first | omega | decide | (simp_all <;> omega)) | skip)))
 by_cases hx0 : x = 0
 ·subst hx0
  refine awp_loopC (rl false [0, 1, 2, 1, 1, 2, 11]) 0 (fun g s => s = ⟨((.ptr i 0) :: AV.junk :: AV.junk :: ((.ptr b 0) :: AV.junk :: ((.v (.int .i64 0)) :: (.v (.int .i64 0)) :: (jnk 11 [])))), [], Hp.st ⟨upd h.H b (some (.obj 74 [.v (.pointer none), .v (.slice none 0 0)])), h.T⟩ i l (a + 1)⟩) 0 rfl ?_
  rintro g _ rfl
  (repeat (first | refine gO rfl ?_ | (refine gM zM25 fun K1 hK1 => ?_; simp only [go_sem, ↓reduceIte, reduceCtorEq, nA, nB, nC, nD, nE, nF] <;> and_intros <;> first | (apply hK1; clear hK1 K1) | (intros; first | omega | decide | (simp_all <;> omega)) | skip)))
  refine awp_cond (t := _) rfl (fun h5 => by cases h5) (fun h5 => ?_)
  (repeat (first | refine gO rfl ?_ | (refine gM zM25 fun K1 hK1 => ?_; simp only [go_sem, ↓reduceIte, reduceCtorEq, nA, nB, nC, nD, nE, nF] <;> and_intros <;> first | (apply hK1; clear hK1 K1) | (intros; first | omega | decide | (simp_all <;> omega)) | skip)))
  refine (g_bString0 b _ ((upd_other _ _ hbi).trans (upd_same _ _ _))).mono ?_
  rintro _ h9 ⟨rfl, rfl⟩
  apply hK1; clear hK1 K1
  (repeat (first | refine gO rfl ?_ | (refine gM zM25 fun K1 hK1 => ?_; simp only [go_sem, ↓reduceIte, reduceCtorEq, nA, nB, nC, nD, nE, nF] <;> and_intros <;> first | (apply hK1; clear hK1 K1) | (intros; first | omega | decide | (simp_all <;> omega)) | skip)))
  simp only [Tryz.results8, go_sem, ↓reduceIte, reduceCtorEq, nA, nB, nC, nD, nE, nF]
  refine ⟨_, h.st i l (a + 1), Weak.refl _, ⟨fun q => ?_, fun q => ?_⟩, [], a + 1, rfl, by simp, by simp, by omega, rfl⟩
  ·by_cases e : q = b
   ·left; subst e; exact (upd_other _ _ hbi).trans hb0
   ·right
    show upd h.H i _ q = upd (upd h.H b _) i _ q
    by_cases e2 : q = i
    ·subst e2; rw [upd_same, upd_same]
    ·rw [upd_other _ _ e2, upd_other _ _ e2, upd_other _ _ e]
  ·right; rfl
 ·obtain ⟨many, hm⟩ : ∃ m : Nat, x = (m : Int) := ⟨x.toNat, by omega⟩
  subst hm
  rw [← st_updH hbi]
  refine awp_ownBuf b 1 74 5 (cs := [.v (.pointer none), .v (.slice none 0 0)]) (upd_same _ _ _) rfl (fun k hk => ?_)
  replace hk : h.T k = none := hk
  simp only [upd_upd]
  refine awp_loopC (rl false [0, 1, 2, 1, 1, 2, 11]) 0 (fun g s => ∃ (j : Nat) (X : AV) (ts : List Tok), g + j = many ∧ (X = .v (.pointer none) ∨ X = .ptr b 0) ∧ (∀ t ∈ ts, t ∈ toks) ∧ (j ≤ ts.length ∧ ts.length ≤ 11 * j) ∧
   s = ⟨((.ptr i 0) :: AV.junk :: AV.junk :: ((.ptr b 0) :: AV.junk :: ((.v (.int .i64 many)) :: (.v (.int .i64 j)) :: (jnk 11 [])))), [], Hp.st ⟨upd h.H b (some (.obj 74 [X, .arr 1 k ts.flatten.length])), upd h.T k (some (.buf 5 (rowB ts.flatten)))⟩ i l (a + 1 + 2 * j)⟩) many ⟨0, _, [], by omega, .inl rfl, by simp, by simp, ?_⟩ ?_
  ·rw [← st_upd hbi, show a + 1 + 2 * ((0 : Nat) : Int) = a + 1 by omega]; rfl
  rintro g _ ⟨j, X, ts, hj, hX, htt, hbd, rfl⟩
  have hf1 := flat_ge ts htt
  have hf2 := flat_le2 ts htt
  (repeat (first | refine gO rfl ?_ | (refine gM zM25 fun K1 hK1 => ?_; simp only [go_sem, ↓reduceIte, reduceCtorEq, nA, nB, nC, nD, nE, nF] <;> and_intros <;> first | (apply hK1; clear hK1 K1) | (intros; first | omega | decide | (simp_all <;> omega)) | skip)))
  refine awp_cond (t := _) rfl (fun h5 => ?_) (fun h5 => ?_)
  ·simp only [decide_eq_true_eq] at h5
   (repeat (first | refine gO rfl ?_ | (refine gM zM25 fun K1 hK1 => ?_; simp only [go_sem, ↓reduceIte, reduceCtorEq, nA, nB, nC, nD, nE, nF] <;> and_intros <;> first | (apply hK1; clear hK1 K1) | (intros; first | omega | decide | (simp_all <;> omega)) | skip)))
   refine (hsw (a + 1 + 2 * j) _ (by omega)).mono ?_
   rintro _ h9 ⟨x, hx, rfl, rfl⟩
   obtain ⟨w, hw, rfl⟩ := List.mem_map.1 hx
   obtain ⟨w1, w2, w3⟩ := eightT_ok w hw
   apply hK1; clear hK1 K1
   (repeat (first | refine gO rfl ?_ | (refine gM zM25 fun K1 hK1 => ?_; simp only [go_sem, ↓reduceIte, reduceCtorEq, nA, nB, nC, nD, nE, nF] <;> and_intros <;> first | (apply hK1; clear hK1 K1) | (intros; first | omega | decide | (simp_all <;> omega)) | skip)))
   refine (hsg (a + 1 + 2 * j + 1) _ (by omega)).mono ?_
   rintro _ h9 ⟨y, hy, rfl, rfl⟩
   obtain ⟨v, hv, rfl⟩ := List.mem_map.1 hy
   obtain ⟨v1, v2, v3⟩ := sixT_ok v hv
   apply hK1; clear hK1 K1
   have hs1 : (bsT w).size ≤ 18 := by
    have := flat_le2 w w1
    show w.flatten.length ≤ 18
    omega
   have hs2 : (bsT v).size ≤ 4 := by
    have := flat_le2 v v1
    show v.flatten.length ≤ 4
    omega
   have hcat : bsT w ++ bsT v = bsT (w ++ v) := by unfold bsT; rw [bsOf_append, List.flatten_append]
   (repeat (first | refine gO rfl ?_ | (refine gM zM25 fun K1 hK1 => ?_; simp only [go_sem, ↓reduceIte, reduceCtorEq, nA, nB, nC, nD, nE, nF, hcat] <;> and_intros <;> first | (apply hK1; clear hK1 K1) | (intros; first | omega | decide | (simp_all <;> omega)) | skip)))
   have hd : (bsT (w ++ v)).data.toList = (w ++ v).flatten := rfl
   have hs3 : (bsT (w ++ v)).size = (w ++ v).flatten.length := size_bs _
   have hwv : ∀ t ∈ w ++ v, t ∈ toks := fun t ht => (List.mem_append.1 ht).elim (w1 t) (v1 t)
   have hs4 : (w ++ v).flatten.length ≤ 22 := by
    have := flat_le2 (w ++ v) hwv
    rw [List.length_append] at this
    omega
   refine (g_writeString b k ts.flatten.length X (bsT (w ++ v)) ts.flatten _ ((upd_other _ _ hbi).trans (upd_same _ _ _)) hX (upd_same _ _ _) rfl (by omega)).mono ?_
   rintro _ h9 ⟨rfl, rfl⟩
   apply hK1; clear hK1 K1
   (repeat (first | refine gO rfl ?_ | (refine gM zM25 fun K1 hK1 => ?_; simp only [go_sem, ↓reduceIte, reduceCtorEq, nA, nB, nC, nD, nE, nF] <;> and_intros <;> first | (apply hK1; clear hK1 K1) | (intros; first | omega | decide | (simp_all <;> omega)) | skip)))
   refine ⟨g - 1, by omega, j + 1, _, ts ++ (w ++ v), by omega, .inr rfl, ?_, ?_, ?_⟩
   ·intro t ht
    rcases List.mem_append.1 ht with h | h
    ·exact htt t h
    ·exact hwv t h
   ·simp only [List.length_append]; omega
   ·have hlx : (ts ++ (w ++ v)).flatten = ts.flatten ++ (w ++ v).flatten := List.flatten_append
    rw [hlx, List.length_append, st_upd hbi, hd, hs3]
    simp only [upd_upd]
    rw [show a + 1 + 2 * ((j + 1 : Nat) : Int) = a + 1 + 2 * j + 1 + 1 by omega]; rfl
  ·simp only [decide_eq_false_iff_not] at h5
   obtain rfl : j = many := by omega
   (repeat (first | refine gO rfl ?_ | (refine gM zM25 fun K1 hK1 => ?_; simp only [go_sem, ↓reduceIte, reduceCtorEq, nA, nB, nC, nD, nE, nF] <;> and_intros <;> first | (apply hK1; clear hK1 K1) | (intros; first | omega | decide | (simp_all <;> omega)) | skip)))
   refine (g_bString b k X ts.flatten _ ((upd_other _ _ hbi).trans (upd_same _ _ _)) (upd_same _ _ _) (by intro e; have := congrArg List.length e; simp only [List.length_nil] at this; omega)).mono ?_
   rintro _ h9 ⟨rfl, rfl⟩
   apply hK1; clear hK1 K1
   (repeat (first | refine gO rfl ?_ | (refine gM zM25 fun K1 hK1 => ?_; simp only [go_sem, ↓reduceIte, reduceCtorEq, nA, nB, nC, nD, nE, nF] <;> and_intros <;> first | (apply hK1; clear hK1 K1) | (intros; first | omega | decide | (simp_all <;> omega)) | skip)))
   simp only [Tryz.results8, go_sem, ↓reduceIte, reduceCtorEq, nA, nB, nC, nD, nE, nF]
   refine ⟨_, h.st i l (a + 1 + 2 * j), Weak.refl _, ⟨fun q => ?_, fun q => ?_⟩, ts, _, rfl, htt, by omega, ?_, rfl⟩
   ·by_cases e : q = b
    ·left; subst e; exact (upd_other _ _ hbi).trans hb0
    ·right
     show upd h.H i _ q = upd (upd (upd h.H b _) i _) b none q
     rw [upd_other _ _ e]
     by_cases e2 : q = i
     ·subst e2; rw [upd_same, upd_same]
     ·rw [upd_other _ _ e2, upd_other _ _ e2, upd_other _ _ e]
   ·by_cases e : q = k
    ·left; rw [e]; exact hk
    ·right; show _ = upd (upd _ _ _) _ _ _; rw [upd_other _ _ e, upd_other _ _ e]; rfl
   ·omega
theorem g_clW0 (h : Hp) : ACalls Tryz.prog 39 [.v (.slice none 0 0)] h (fun r h' => r = .v (.slice none 0 0) ∧ h' = h) := by
 refine gE Tryz.func39 rfl (by kernel_rfl) 7 rfl fun c => ?_
 (repeat (first | refine gO rfl ?_ | (refine gM zM26 fun K1 hK1 => ?_; simp only [go_sem, ↓reduceIte, reduceCtorEq, nA, nB, nC, nD, nE, nF] <;> and_intros <;> first | (apply hK1; clear hK1 K1) | (intros; first | omega | decide | (simp_all <;> omega)) | skip)))
 refine awp_cond (t := _) rfl (fun _ => ?_) (fun h1 => by cases h1)
 (repeat (first | refine gO rfl ?_ | (refine gM zM26 fun K1 hK1 => ?_; simp only [go_sem, ↓reduceIte, reduceCtorEq, nA, nB, nC, nD, nE, nF] <;> and_intros <;> first | (apply hK1; clear hK1 K1) | (intros; first | omega | decide | (simp_all <;> omega)) | skip)))
 simp only [Tryz.results39, go_sem, ↓reduceIte, reduceCtorEq, nA, nB, nC, nD, nE, nF]
 exact ⟨_, _, Weak.refl _, Hp.le.refl _, rfl, rfl⟩
theorem g_clW (x : List AV) (xs : List (List AV)) (k : Option Nat) (h : Hp) (hb : xs.length ≤ 1000) : ACalls Tryz.prog 39 [.row 3 (x :: xs) k] h (fun r h' => ∃ q, h.T q = none ∧ r = .row 3 (x :: xs) (some q) ∧ h' = { h with T := upd h.T q (some (.tail (xs.length + 1))) }) := by
 refine gE Tryz.func39 rfl (by kernel_rfl) 7 rfl fun c => ?_
 (repeat (first | refine gO rfl ?_ | (refine gM zM26 fun K1 hK1 => ?_; simp only [go_sem, ↓reduceIte, reduceCtorEq, nA, nB, nC, nD, nE, nF] <;> and_intros <;> first | (apply hK1; clear hK1 K1) | (intros; first | omega | decide | (simp_all <;> omega)) | skip)))
 refine awp_cond (t := _) rfl (fun h1 => by cases h1) (fun _ => ?_)
 (repeat (first | refine gO rfl ?_ | (refine gM zM26 fun K1 hK1 => ?_; simp only [go_sem, ↓reduceIte, reduceCtorEq, nA, nB, nC, nD, nE, nF] <;> and_intros <;> first | (apply hK1; clear hK1 K1) | (intros; first | omega | decide | (simp_all <;> omega)) | skip)))
 intro q hq
 and_intros <;> first | (refine hK1 _ ?_; clear hK1 K1) | exact .inl trivial | exact .inr rfl | exact .inr True.intro | exact True.intro | omega
 (repeat (first | refine gO rfl ?_ | (refine gM zM26 fun K1 hK1 => ?_; simp only [go_sem, ↓reduceIte, reduceCtorEq, nA, nB, nC, nD, nE, nF] <;> and_intros <;> first | (apply hK1; clear hK1 K1) | (intros; first | omega | decide | (simp_all <;> omega)) | skip)))
 simp only [Tryz.results39, go_sem, ↓reduceIte, reduceCtorEq, nA, nB, nC, nD, nE, nF]
 exact ⟨_, _, Weak.refl _, Hp.le.refl _, q, hq, rfl, rfl⟩
theorem WL.of4 {a b c d a' b' c' d' : AV} (h1 : Weak a a') (h2 : Weak b b') (h3 : Weak c c') (h4 : Weak d d') : WL [a, b, c, d] [a', b', c', d'] := WL.cons h1 (WL.cons h2 (WL.cons h3 (WL.cons h4 WL.nil)))
theorem weak_fo (key : ByteArray) (hi ot : Int) (ws : List Wd) (kk : Option Nat) : Weak (.agg [.v (.string key), .v (.int .i64 hi), .v (.int .i64 ot), .row 3 (ws.map encW) kk]) (encFo ⟨key, hi, ot, ws⟩ none) :=
 Weak.agg (WL.of4 (Weak.refl _) (Weak.refl _) (Weak.refl _) (Weak.row _ _ _))
theorem weak_fo0 (key : ByteArray) (hi ot : Int) : Weak (.agg [.v (.string key), .v (.int .i64 hi), .v (.int .i64 ot), .v (.slice none 0 0)]) (encFo ⟨key, hi, ot, []⟩ none) :=
 Weak.agg (WL.of4 (Weak.refl _) (Weak.refl _) (Weak.refl _) (Weak.nil _ _ _ ⟨rfl, rfl⟩))
theorem le_tok {h : Hp} {i q : Nat} {l : List Int} {a : Int} {o : Option TO} (hq : h.T q = none) : Hp.le (h.st i l a) ⟨(h.st i l a).H, upd (h.st i l a).T q o⟩ := ⟨fun _ => .inr rfl, fun j => by
 by_cases e : j = q
 ·left; rw [e]; exact hq
 ·right; exact (upd_other _ _ e).symm⟩
theorem two_len (k : ByteArray) : 1 ≤ [k, (⟨#[]⟩ : ByteArray)].length ∧ [k, (⟨#[]⟩ : ByteArray)].length ≤ 100 := ⟨by simp, by simp⟩
theorem two_mem {k x : ByteArray} (h : x ∈ [k, (⟨#[]⟩ : ByteArray)]) : x = k ∨ x = ⟨#[]⟩ := by simpa using h
theorem g_font (i : Nat) (l : List Int) (a : Int) (key : ByteArray) (h : Hp) (hl : SOk l) (ha : 0 ≤ a ∧ a ≤ 1000000) :
  ACalls Tryz.prog 7 [.ptr i 0, .v (.string key)] (h.st i l a) (fun r h' => ∃ (f : Fo) (a' : Int), r = encFo f none ∧ (f.key = key ∨ f.key = ⟨#[]⟩) ∧ f.ws.length ≤ 4 ∧ (a ≤ a' ∧ a' ≤ a + 30) ∧ h' = h.st i l a') := by
 refine gE Tryz.func7 rfl (by kernel_rfl) 57 rfl fun c => ?_
 (repeat (first | refine gO rfl ?_ | (refine gM zM27 fun K1 hK1 => ?_; simp only [go_sem, ↓reduceIte, reduceCtorEq, nA, nB, nC, nD, nE, nF] <;> and_intros <;> first | (apply hK1; clear hK1 K1) | (intros; first | omega | decide | (simp_all <;> omega)) | skip)))
 refine (g_pick i l a [1, 8, 10, 16] none h hl (by omega) (by decide)).mono ?_
 rintro _ h9 ⟨hi, _, rfl, rfl⟩
 apply hK1; clear hK1 K1
 (repeat (first | refine gO rfl ?_ | (refine gM zM27 fun K1 hK1 => ?_; simp only [go_sem, ↓reduceIte, reduceCtorEq, nA, nB, nC, nD, nE, nF] <;> and_intros <;> first | (apply hK1; clear hK1 K1) | (intros; first | omega | decide | (simp_all <;> omega)) | skip)))
 refine (g_pick i l (a + 1) [0, 1, 1, 2] none h hl (by omega) (by decide)).mono ?_
 rintro _ h9 ⟨ot, _, rfl, rfl⟩
 apply hK1; clear hK1 K1
 (repeat (first | refine gO rfl ?_ | (refine gM zM27 fun K1 hK1 => ?_; simp only [go_sem, ↓reduceIte, reduceCtorEq, nA, nB, nC, nD, nE, nF] <;> and_intros <;> first | (apply hK1; clear hK1 K1) | (intros; first | omega | decide | (simp_all <;> omega)) | skip)))
 refine (g_flip i l (a + 1 + 1) 2 h hl (by omega) (by omega)).mono ?_
 rintro _ h9 ⟨b, rfl, rfl⟩
 apply hK1; clear hK1 K1
 (repeat (first | refine gO rfl ?_ | (refine gM zM27 fun K1 hK1 => ?_; simp only [go_sem, ↓reduceIte, reduceCtorEq, nA, nB, nC, nD, nE, nF] <;> and_intros <;> first | (apply hK1; clear hK1 K1) | (intros; first | omega | decide | (simp_all <;> omega)) | skip)))
 refine awp_cond (t := _) rfl (fun hb => ?_) (fun hb => ?_)
 ·(repeat (first | refine gO rfl ?_ | (refine gM zM27 fun K1 hK1 => ?_; simp only [go_sem, ↓reduceIte, reduceCtorEq, nA, nB, nC, nD, nE, nF] <;> and_intros <;> first | (apply hK1; clear hK1 K1) | (intros; first | omega | decide | (simp_all <;> omega)) | skip)))
  refine (g_pick i l (a + 1 + 1 + 1) [0, 1, 1] none _ hl (by omega) (by decide)).mono ?_
  rintro _ h9 ⟨x1, _, rfl, rfl⟩
  apply hK1; clear hK1 K1
  (repeat (first | refine gO rfl ?_ | (refine gM zM27 fun K1 hK1 => ?_; simp only [go_sem, ↓reduceIte, reduceCtorEq, nA, nB, nC, nD, nE, nF] <;> and_intros <;> first | (apply hK1; clear hK1 K1) | (intros; first | omega | decide | (simp_all <;> omega)) | skip)))
  refine (g_pick i l (a + 1 + 1 + 1 + 1) [1, 2] none _ hl (by omega) (by decide)).mono ?_
  rintro _ h9 ⟨x2, _, rfl, rfl⟩
  apply hK1; clear hK1 K1
  (repeat (first | refine gO rfl ?_ | (refine gM zM27 fun K1 hK1 => ?_; simp only [go_sem, ↓reduceIte, reduceCtorEq, nA, nB, nC, nD, nE, nF] <;> and_intros <;> first | (apply hK1; clear hK1 K1) | (intros; first | omega | decide | (simp_all <;> omega)) | skip)))
  refine (g_pick i l (a + 1 + 1 + 1 + 1 + 1) [0, 1, 3] none _ hl (by omega) (by decide)).mono ?_
  rintro _ h9 ⟨x3, _, rfl, rfl⟩
  apply hK1; clear hK1 K1
  (repeat (first | refine gO rfl ?_ | (refine gM zM27 fun K1 hK1 => ?_; simp only [go_sem, ↓reduceIte, reduceCtorEq, nA, nB, nC, nD, nE, nF] <;> and_intros <;> first | (apply hK1; clear hK1 K1) | (intros; first | omega | decide | (simp_all <;> omega)) | skip)))
  refine (g_flip i l (a + 1 + 1 + 1 + 1 + 1 + 1) 15 _ hl (by omega) (by omega)).mono ?_
  rintro _ h9 ⟨b2, rfl, rfl⟩
  apply hK1; clear hK1 K1
  (repeat (first | refine gO rfl ?_ | (refine gM zM27 fun K1 hK1 => ?_; simp only [go_sem, ↓reduceIte, reduceCtorEq, nA, nB, nC, nD, nE, nF] <;> and_intros <;> first | (apply hK1; clear hK1 K1) | (intros; first | omega | decide | (simp_all <;> omega)) | skip)))
  refine awp_cond (t := _) rfl (fun hb2 => ?_) (fun hb2 => ?_)
  ·(repeat (first | refine gO rfl ?_ | (refine gM zM27 fun K1 hK1 => ?_; simp only [go_sem, ↓reduceIte, reduceCtorEq, nA, nB, nC, nD, nE, nF] <;> and_intros <;> first | (apply hK1; clear hK1 K1) | (intros; first | omega | decide | (simp_all <;> omega)) | skip)))
   refine (g_some i l (a + 1 + 1 + 1 + 1 + 1 + 1 + 1) [key, ⟨#[]⟩] none _ hl (by omega) (two_len key)).mono ?_
   rintro _ h9 ⟨key2, hk2, rfl, rfl⟩
   apply hK1; clear hK1 K1
   (repeat (first | refine gO rfl ?_ | (refine gM zM27 fun K1 hK1 => ?_; simp only [go_sem, ↓reduceIte, reduceCtorEq, nA, nB, nC, nD, nE, nF] <;> and_intros <;> first | (apply hK1; clear hK1 K1) | (intros; first | omega | decide | (simp_all <;> omega)) | skip)))
   refine (g_odd i l (a + 1 + 1 + 1 + 1 + 1 + 1 + 1 + 1) 1 1000 _ hl (by omega) (by omega) (by omega) (by omega)).mono ?_
   rintro _ h9 ⟨hi2, p1, hhi2, hp1, rfl, rfl⟩
   apply hK1; clear hK1 K1
   (repeat (first | refine gO rfl ?_ | (refine gM zM27 fun K1 hK1 => ?_; simp only [go_sem, ↓reduceIte, reduceCtorEq, nA, nB, nC, nD, nE, nF] <;> and_intros <;> first | (apply hK1; clear hK1 K1) | (intros; first | omega | decide | (simp_all <;> omega)) | skip)))
   refine (g_odd i l (p1) 0 1000 _ hl (by omega) (by omega) (by omega) (by omega)).mono ?_
   rintro _ h9 ⟨ot2, p2, hot2, hp2, rfl, rfl⟩
   apply hK1; clear hK1 K1
   (repeat (first | refine gO rfl ?_ | (refine gM zM27 fun K1 hK1 => ?_; simp only [go_sem, ↓reduceIte, reduceCtorEq, nA, nB, nC, nD, nE, nF] <;> and_intros <;> first | (apply hK1; clear hK1 K1) | (intros; first | omega | decide | (simp_all <;> omega)) | skip)))
   refine (g_clW _ _ none _ (by simp)).mono ?_
   rintro _ h9 ⟨q, hq, rfl, rfl⟩
   replace hq : h.T q = none := hq
   apply hK1; clear hK1 K1
   (repeat (first | refine gO rfl ?_ | (refine gM zM27 fun K1 hK1 => ?_; simp only [go_sem, ↓reduceIte, reduceCtorEq, nA, nB, nC, nD, nE, nF] <;> and_intros <;> first | (apply hK1; clear hK1 K1) | (intros; first | omega | decide | (simp_all <;> omega)) | skip)))
   refine (g_pick i l (p2) [106, 97, -1] none ⟨h.H, upd h.T q (some (.tail 3))⟩ hl (by omega) (by decide)).mono ?_
   rintro _ h9 ⟨y1, _, rfl, rfl⟩
   apply hK1; clear hK1 K1
   (repeat (first | refine gO rfl ?_ | (refine gM zM27 fun K1 hK1 => ?_; simp only [go_sem, ↓reduceIte, reduceCtorEq, nA, nB, nC, nD, nE, nF] <;> and_intros <;> first | (apply hK1; clear hK1 K1) | (intros; first | omega | decide | (simp_all <;> omega)) | skip)))
   refine (g_pick i l (p2 + 1) [106, 122, 1114112] none ⟨h.H, upd h.T q (some (.tail 3))⟩ hl (by omega) (by decide)).mono ?_
   rintro _ h9 ⟨y2, _, rfl, rfl⟩
   apply hK1; clear hK1 K1
   (repeat (first | refine gO rfl ?_ | (refine gM zM27 fun K1 hK1 => ?_; simp only [go_sem, ↓reduceIte, reduceCtorEq, nA, nB, nC, nD, nE, nF] <;> and_intros <;> first | (apply hK1; clear hK1 K1) | (intros; first | omega | decide | (simp_all <;> omega)) | skip)))
   refine (g_odd i l (p2 + 1 + 1) 0 1000 ⟨h.H, upd h.T q (some (.tail 3))⟩ hl (by omega) (by omega) (by omega) (by omega)).mono ?_
   rintro _ h9 ⟨y3, p3, hy3, hp3, rfl, rfl⟩
   apply hK1; clear hK1 K1
   have hTq : (Hp.st ⟨h.H, upd h.T q (some (.tail 3))⟩ i l p3).T q = some (.tail 3) := upd_same _ _ _
   (repeat (first | refine gO rfl ?_ | (refine gM zM27 fun K1 hK1 => ?_; simp only [go_sem, ↓reduceIte, reduceCtorEq, nA, nB, nC, nD, nE, nF, hTq] <;> and_intros <;> first | (apply hK1; clear hK1 K1) | (intros; first | omega | decide | (simp_all <;> omega)) | skip)))
   simp only [Tryz.results7, go_sem, ↓reduceIte, reduceCtorEq, nA, nB, nC, nD, nE, nF]
   have hle : Hp.le (h.st i l p3) ⟨(Hp.st ⟨h.H, upd h.T q (some (.tail 3))⟩ i l p3).H, upd (upd h.T q (some (.tail 3))) q (some (.tail 4))⟩ := by
    rw [upd_upd]; exact le_tok hq
   exact ⟨_, h.st i l p3, weak_fo key2 hi2 ot2 [(32, 32, x1), (97, 102, x2), (105, 105, x3), (y1, y2, y3)] (some q), hle, ⟨key2, hi2, ot2, [(32, 32, x1), (97, 102, x2), (105, 105, x3), (y1, y2, y3)]⟩, p3, rfl, two_mem hk2, by simp, by omega, rfl⟩
  ·(repeat (first | refine gO rfl ?_ | (refine gM zM27 fun K1 hK1 => ?_; simp only [go_sem, ↓reduceIte, reduceCtorEq, nA, nB, nC, nD, nE, nF] <;> and_intros <;> first | (apply hK1; clear hK1 K1) | (intros; first | omega | decide | (simp_all <;> omega)) | skip)))
   simp only [Tryz.results7, go_sem, ↓reduceIte, reduceCtorEq, nA, nB, nC, nD, nE, nF]
   exact ⟨_, _, weak_fo key hi ot [(32, 32, x1), (97, 102, x2), (105, 105, x3)] none, Hp.le.refl _, ⟨key, hi, ot, [(32, 32, x1), (97, 102, x2), (105, 105, x3)]⟩, _, rfl, .inl rfl, by simp, by omega, rfl⟩
 ·(repeat (first | refine gO rfl ?_ | (refine gM zM27 fun K1 hK1 => ?_; simp only [go_sem, ↓reduceIte, reduceCtorEq, nA, nB, nC, nD, nE, nF] <;> and_intros <;> first | (apply hK1; clear hK1 K1) | (intros; first | omega | decide | (simp_all <;> omega)) | skip)))
  refine (g_flip i l (a + 1 + 1 + 1) 15 _ hl (by omega) (by omega)).mono ?_
  rintro _ h9 ⟨b2, rfl, rfl⟩
  apply hK1; clear hK1 K1
  (repeat (first | refine gO rfl ?_ | (refine gM zM27 fun K1 hK1 => ?_; simp only [go_sem, ↓reduceIte, reduceCtorEq, nA, nB, nC, nD, nE, nF] <;> and_intros <;> first | (apply hK1; clear hK1 K1) | (intros; first | omega | decide | (simp_all <;> omega)) | skip)))
  refine awp_cond (t := _) rfl (fun hb2 => ?_) (fun hb2 => ?_)
  ·(repeat (first | refine gO rfl ?_ | (refine gM zM27 fun K1 hK1 => ?_; simp only [go_sem, ↓reduceIte, reduceCtorEq, nA, nB, nC, nD, nE, nF] <;> and_intros <;> first | (apply hK1; clear hK1 K1) | (intros; first | omega | decide | (simp_all <;> omega)) | skip)))
   refine (g_some i l (a + 1 + 1 + 1 + 1) [key, ⟨#[]⟩] none _ hl (by omega) (two_len key)).mono ?_
   rintro _ h9 ⟨key2, hk2, rfl, rfl⟩
   apply hK1; clear hK1 K1
   (repeat (first | refine gO rfl ?_ | (refine gM zM27 fun K1 hK1 => ?_; simp only [go_sem, ↓reduceIte, reduceCtorEq, nA, nB, nC, nD, nE, nF] <;> and_intros <;> first | (apply hK1; clear hK1 K1) | (intros; first | omega | decide | (simp_all <;> omega)) | skip)))
   refine (g_odd i l (a + 1 + 1 + 1 + 1 + 1) 1 1000 _ hl (by omega) (by omega) (by omega) (by omega)).mono ?_
   rintro _ h9 ⟨hi2, p1, hhi2, hp1, rfl, rfl⟩
   apply hK1; clear hK1 K1
   (repeat (first | refine gO rfl ?_ | (refine gM zM27 fun K1 hK1 => ?_; simp only [go_sem, ↓reduceIte, reduceCtorEq, nA, nB, nC, nD, nE, nF] <;> and_intros <;> first | (apply hK1; clear hK1 K1) | (intros; first | omega | decide | (simp_all <;> omega)) | skip)))
   refine (g_odd i l (p1) 0 1000 _ hl (by omega) (by omega) (by omega) (by omega)).mono ?_
   rintro _ h9 ⟨ot2, p2, hot2, hp2, rfl, rfl⟩
   apply hK1; clear hK1 K1
   (repeat (first | refine gO rfl ?_ | (refine gM zM27 fun K1 hK1 => ?_; simp only [go_sem, ↓reduceIte, reduceCtorEq, nA, nB, nC, nD, nE, nF] <;> and_intros <;> first | (apply hK1; clear hK1 K1) | (intros; first | omega | decide | (simp_all <;> omega)) | skip)))
   refine (g_clW0 _).mono ?_
   rintro _ h9 ⟨rfl, rfl⟩
   apply hK1; clear hK1 K1
   (repeat (first | refine gO rfl ?_ | (refine gM zM27 fun K1 hK1 => ?_; simp only [go_sem, ↓reduceIte, reduceCtorEq, nA, nB, nC, nD, nE, nF] <;> and_intros <;> first | (apply hK1; clear hK1 K1) | (intros; first | omega | decide | (simp_all <;> omega)) | skip)))
   refine (g_pick i l (p2) [106, 97, -1] none _ hl (by omega) (by decide)).mono ?_
   rintro _ h9 ⟨y1, _, rfl, rfl⟩
   apply hK1; clear hK1 K1
   (repeat (first | refine gO rfl ?_ | (refine gM zM27 fun K1 hK1 => ?_; simp only [go_sem, ↓reduceIte, reduceCtorEq, nA, nB, nC, nD, nE, nF] <;> and_intros <;> first | (apply hK1; clear hK1 K1) | (intros; first | omega | decide | (simp_all <;> omega)) | skip)))
   refine (g_pick i l (p2 + 1) [106, 122, 1114112] none _ hl (by omega) (by decide)).mono ?_
   rintro _ h9 ⟨y2, _, rfl, rfl⟩
   apply hK1; clear hK1 K1
   (repeat (first | refine gO rfl ?_ | (refine gM zM27 fun K1 hK1 => ?_; simp only [go_sem, ↓reduceIte, reduceCtorEq, nA, nB, nC, nD, nE, nF] <;> and_intros <;> first | (apply hK1; clear hK1 K1) | (intros; first | omega | decide | (simp_all <;> omega)) | skip)))
   refine (g_odd i l (p2 + 1 + 1) 0 1000 _ hl (by omega) (by omega) (by omega) (by omega)).mono ?_
   rintro _ h9 ⟨y3, p3, hy3, hp3, rfl, rfl⟩
   apply hK1; clear hK1 K1
   (repeat (first | refine gO rfl ?_ | (refine gM zM27 fun K1 hK1 => ?_; simp only [go_sem, ↓reduceIte, reduceCtorEq, nA, nB, nC, nD, nE, nF] <;> and_intros <;> first | (apply hK1; clear hK1 K1) | (intros; first | omega | decide | (simp_all <;> omega)) | skip)))
   intro q hq
   replace hq : h.T q = none := hq
   apply hK1; clear hK1 K1
   (repeat (first | refine gO rfl ?_ | (refine gM zM27 fun K1 hK1 => ?_; simp only [go_sem, ↓reduceIte, reduceCtorEq, nA, nB, nC, nD, nE, nF] <;> and_intros <;> first | (apply hK1; clear hK1 K1) | (intros; first | omega | decide | (simp_all <;> omega)) | skip)))
   simp only [Tryz.results7, go_sem, ↓reduceIte, reduceCtorEq, nA, nB, nC, nD, nE, nF]
   exact ⟨_, _, weak_fo key2 hi2 ot2 [(y1, y2, y3)] (some q), le_tok hq, ⟨key2, hi2, ot2, [(y1, y2, y3)]⟩, _, rfl, two_mem hk2, by simp, by omega, rfl⟩
  ·(repeat (first | refine gO rfl ?_ | (refine gM zM27 fun K1 hK1 => ?_; simp only [go_sem, ↓reduceIte, reduceCtorEq, nA, nB, nC, nD, nE, nF] <;> and_intros <;> first | (apply hK1; clear hK1 K1) | (intros; first | omega | decide | (simp_all <;> omega)) | skip)))
   simp only [Tryz.results7, go_sem, ↓reduceIte, reduceCtorEq, nA, nB, nC, nD, nE, nF]
   exact ⟨_, _, weak_fo0 key hi ot, Hp.le.refl _, ⟨key, hi, ot, []⟩, _, rfl, .inl rfl, by simp, by omega, rfl⟩
theorem para_flat : ∀ (g : Nat) (ws : List (List Tok)) (ys : List Way), (paraT g ws ys).flatten.length ≤ ws.flatten.length + ws.length
 | 0, _, _ => by simp [paraT]
 | g + 1, ws, ys => by
  rw [paraT]
  split
  ·simp
  ·have h1 := para_flat g (ws.drop (ys.getD 0 (0, 0, 0)).2.2) (ys.drop (ys.getD 0 (0, 0, 0)).2.2)
   have h2 := joinT_len (ws.take (ys.getD 0 (0, 0, 0)).2.2)
   have e : ws = ws.take (ys.getD 0 (0, 0, 0)).2.2 ++ ws.drop (ys.getD 0 (0, 0, 0)).2.2 := (List.take_append_drop _ _).symm
   have e1 := congrArg (fun l => l.flatten.length + l.length) e
   simp only [List.flatten_append, List.length_append] at e1
   rw [List.flatten_cons, List.length_append]
   omega
theorem paragraph_flat (f : Fo) (blank wide : Int) (ws : List (List Tok)) : (paragraphT f blank wide ws).flatten.length ≤ ws.flatten.length + ws.length := by
 unfold paragraphT
 split
 ·simp
 ·exact para_flat _ _ _
theorem flatMap_flat (F : List Tok → List (List Tok)) : ∀ P : List (List Tok), (∀ p, (F p).flatten.length ≤ 2 * p.length) → (P.flatMap F).flatten.length ≤ 2 * P.flatten.length
 | [], _ => by simp
 | p :: P, h => by
  have h1 := h p
  have h2 := flatMap_flat F P h
  rw [List.flatMap_cons, List.flatten_append, List.length_append, List.flatten_cons, List.length_append]
  omega
theorem lines_size (f : Fo) (wide : Int) (ts : List Tok) : (linesT f wide ts).flatten.length ≤ 2 * ts.length := by
 unfold linesT
 have h1 := flatMap_flat (fun p => paragraphT f (widS f blT) wide (wordsT f wide p)) (splitT lfT ts) (fun p => by
  have h1 := paragraph_flat f (widS f blT) wide (wordsT f wide p)
  have h2 := words_flat f wide p
  have h3 := wordsT_len f wide p
  omega)
 have h2 : (splitT lfT ts).flatten.length ≤ ts.length := by rw [splitT_flat]; exact List.length_filter_le _ _
 omega
theorem toks_last : ∀ t ∈ toks, t ≠ blT → t.reverse.head? ≠ some 32 ∧ t ≠ [] := by decide
theorem trim_bl (l : List UInt8) : Lib.trimRightB (l ++ [32]) 32 = Lib.trimRightB l 32 := by
  unfold Lib.trimRightB
  rw [List.reverse_append]
  simp
theorem trim_stop (l t : List UInt8) (h1 : t.reverse.head? ≠ some 32) (h2 : t ≠ []) : Lib.trimRightB (l ++ t) 32 = l ++ t := by
  unfold Lib.trimRightB
  rw [List.reverse_append]
  cases h : t.reverse with
  | nil => exact absurd (List.reverse_eq_nil_iff.1 h) h2
  | cons b r =>
    rw [h] at h1
    have hb : (b == 32) = false := by simpa using h1
    rw [List.cons_append, List.dropWhile_cons, hb, if_neg (by simp), ← List.cons_append, ← h, ← List.reverse_append, List.reverse_reverse]
theorem trim_toks (l : List Tok) (hl : ∀ t ∈ l, t ∈ toks) : ∀ n, n ≤ l.length → Lib.trimRightB (l.take n).flatten 32 = (l.take (trN l n)).flatten
  | 0, _ => rfl
  | n + 1, h => by
    have hn : n < l.length := by omega
    have ih := trim_toks l hl n (by omega)
    have hg : l.getD n [] = l[n] := by rw [List.getD_eq_getElem?_getD, List.getElem?_eq_getElem hn]; rfl
    rw [List.take_succ_eq_append_getElem hn, List.flatten_append, trN, hg]
    by_cases e : l[n] = blT
    · rw [if_pos e, e, ← ih]
      exact trim_bl _
    · rw [if_neg e, List.take_succ_eq_append_getElem hn, List.flatten_append]
      obtain ⟨h1, h2⟩ := toks_last _ (hl _ (List.getElem_mem hn)) e
      have e1 : [l[n]].flatten = l[n] := by simp
      rw [e1]
      exact trim_stop _ _ h1 h2
def inB (w : Int × Int × Int) (r : Int) : Bool := decide (w.1 ≤ r) && decide (r ≤ w.2.1)
theorem inB_iff {w : Int × Int × Int} {r : Int} : inB w r = true ↔ inW w r := by
 unfold inB inW
 simp
def curW (f : Fo) (r : Int) (b : Bool) : Nat → Int
 | 0 => f.ot
 | j + 1 => if (b && inB (wAt f.ws j) r) = true then (wAt f.ws j).2.2 else curW f r b j
theorem curW_false (f : Fo) (r : Int) : ∀ j, curW f r false j = f.ot
 | 0 => rfl
 | j + 1 => by rw [curW, if_neg (by simp), curW_false f r j]
theorem curW_none {f : Fo} {r : Int} : ∀ j, (∀ i, i < j → ¬ inW (wAt f.ws i) r) → curW f r true j = f.ot
 | 0, _ => rfl
 | j + 1, h => by rw [curW, if_neg (fun e => h j (by omega) (inB_iff.1 (by simpa using e))), curW_none j (fun i hi => h i (by omega))]
theorem curW_some {f : Fo} (hs : WsOk f.ws) {r : Int} {i : Nat} (h1 : inW (wAt f.ws i) r) : ∀ j, i < j → j ≤ f.ws.length → curW f r true j = (wAt f.ws i).2.2
 | 0, h, _ => by omega
 | j + 1, h, hj => by
  by_cases e : i = j
  ·subst e; rw [curW, if_pos (by rw [inB_iff.2 h1]; rfl)]
  ·have h2 := hs.1 i j (by omega) (by omega)
   have h3 : ¬ inW (wAt f.ws j) r := fun h => by
    unfold inW at h h1
    omega
   rw [curW, if_neg (fun e => h3 (inB_iff.1 (by simpa using e)))]
   exact curW_some hs h1 j (by omega) (by omega)
theorem curW_all {f : Fo} (hs : WsOk f.ws) (r : Int) : curW f r true f.ws.length = widR f r := by
 by_cases h : ∃ i, i < f.ws.length ∧ inW (wAt f.ws i) r
 ·obtain ⟨i, hi, h1⟩ := h
  rw [curW_some hs h1 _ hi (Nat.le_refl _), wR_found hi h1 (fun k hk h2 => by
   have h3 := hs.1 k i hk hi
   unfold inW at h1 h2
   omega)]
 ·have h2 : ∀ i, i < f.ws.length → ¬ inW (wAt f.ws i) r := fun i hi h1 => h ⟨i, hi, h1⟩
  rw [curW_none _ h2, wR_none h2]
theorem g_wideOfR (f : Fo) (kk : Option Nat) (ts : List Tok) (hts : ∀ t ∈ ts, t ∈ toks) (hn : ts.length ≤ 10000) (hg : Good f) (k0 : Nat) (h : Hp) (hT : h.T k0 = some (.glb tabU)) :
  ACalls Tryz.prog 13 [encFo f kk, .v (.string (bsOf ts.flatten))] h (fun r h' => r = .v (.int .i64 (sumW f ts)) ∧ Gr h h') := by
 have hfl : ∀ x, (encFo f x) = .agg [.v (.string f.key), .v (.int .i64 f.hi), .v (.int .i64 f.ot), .row 3 (f.ws.map encW) x] := fun _ => rfl
 have hsg := g_signsR ts hts hn k0 h hT
 have hml : (f.ws.map encW).length = f.ws.length := List.length_map _
 have htl : (ts.map fun t => encS (bsOf t)).length = ts.length := List.length_map _
 have hlen := hg.len
 refine gE Tryz.func13 rfl (by kernel_rfl) 55 rfl fun c => ?_
 (repeat (first | refine gO rfl ?_ | (refine gM zM24 fun K1 hK1 => ?_; simp only [go_sem, ↓reduceIte, reduceCtorEq, nA, nB, nC, nD, nE, nF, hfl] <;> and_intros <;> first | (apply hK1; clear hK1 K1) | skip)))
 refine hsg.mono ?_
 rintro _ hz ⟨k, hk, rfl, hh⟩; apply hK1; clear hK1 K1; rw [hh]; clear hh hz
 have hgr := Gr.put hk (some (.tail ts.length))
 obtain ⟨h1, eh1⟩ : ∃ h1 : Hp, (⟨h.H, upd h.T k (some (.tail ts.length))⟩ : Hp) = h1 := ⟨_, rfl⟩
 rw [eh1] at hgr ⊢
 have hT1 := hgr.2 _ _ hT
 (repeat (first | refine gO rfl ?_ | (refine gM zM24 fun K1 hK1 => ?_; simp only [go_sem, ↓reduceIte, reduceCtorEq, nA, nB, nC, nD, nE, nF, htl] <;> and_intros <;> (apply hK1; clear hK1 K1))))
 refine awp_loopC (rl false [2, 1, 2, 1, 8, 3, 40]) 0 (fun g s => ∃ j : Nat, g + j = ts.length ∧ s = ⟨(AV.junk :: AV.junk :: ((.ref [.v (.string f.key), .v (.int .i64 f.hi), .v (.int .i64 f.ot), .row 3 (f.ws.map encW) kk] 0) :: AV.junk :: AV.junk :: ((.v (.int .i64 (sumW f (ts.take j)))) :: (jnk 8 ((.row 1 (ts.map fun t => encS (bsOf t)) (some k)) :: (.v (.int .i64 ts.length)) :: (.v (.int .i64 j)) :: (jnk 40 [])))))), [], h1⟩) ts.length ⟨0, by omega, rfl⟩ ?_
 rintro g _ ⟨j, hj, rfl⟩
 (repeat (first | refine gO rfl ?_ | (refine gM zM24 fun K1 hK1 => ?_; simp only [go_sem, ↓reduceIte, reduceCtorEq, nA, nB, nC, nD, nE, nF] <;> and_intros <;> (apply hK1; clear hK1 K1))))
 refine awp_cond (t := _) rfl (fun h5 => ?_) (fun h5 => ?_)
 ·simp only [decide_eq_true_eq] at h5
  have hjl : j < ts.length := by omega
  have gx := row_tok ts j hjl
  have htj : ts[j] ∈ toks := hts _ (List.getElem_mem _)
  have hls : ∀ b, (encS b).length = 1 := fun _ => rfl
  have hgs : ∀ b d, (encS b).getD 0 d = .v (.string b) := fun _ _ => rfl
  have hts2 := take_sumW f ts j hjl
  have hbt := sumW_take_le hg.fob ts j hn
  have hd := g_decode ts[j] htj [] k0 h1 hT1
  rw [List.append_nil] at hd
  obtain ⟨hr1, hr2, hr3, hr4⟩ := toks_rune ts[j] htj
  have hp := toks_pos ts[j] htj
  generalize hX : ts[j] = t at *
  have hws : widS f t = curW f ((decT t).1 : Int) (decide (t ≠ [255])) f.ws.length := by
   by_cases e : t = [255]
   ·rw [decide_eq_false (by simpa using e), curW_false, e]; unfold widS; rw [hr2]
   ·rw [if_neg e] at hr1
    rw [decide_eq_true (by simpa using e), curW_all hg.ws]; unfold widS; rw [hr1]
  have h255 : t = [255] ↔ ((decT t).1 = 65533 ∧ (decT t).2 = 1) := by
   constructor
   ·rintro rfl; exact ⟨rfl, rfl⟩
   ·rintro ⟨e1, e2⟩; exact hr3 (by omega)
  generalize hdr : decT t = d at *
  obtain ⟨rr, nn⟩ := d
  simp only at hd hr1 hr3 hr4 hws h255
  (repeat (first | refine gO rfl ?_ | (refine gM zM24 fun K1 hK1 => ?_; simp only [go_sem, ↓reduceIte, reduceCtorEq, nA, nB, nC, nD, nE, nF, htl, Int.toNat_natCast, gx, hls, hgs] <;> and_intros <;> first | (apply hK1; clear hK1 K1) | (intros; (omega)) | skip)))
  refine hd.mono ?_; rintro _ hz ⟨rfl, hh⟩; apply hK1; clear hK1 K1; rw [hh]; clear hh hz
  clear hd
  (repeat (first | refine gO rfl ?_ | (refine gM zM24 fun K1 hK1 => ?_; simp only [go_sem, ↓reduceIte, reduceCtorEq, nA, nB, nC, nD, nE, nF, hml] <;> and_intros <;> (apply hK1; clear hK1 K1))))
  refine awp_loopC (rl false [2, 1, 2, 1, 2, 3, 3, 3, 11, 3, 26]) 0 (fun g2 s => ∃ m : Nat, g2 + m = f.ws.length ∧ s = ⟨(AV.junk :: AV.junk :: ((.ref [.v (.string f.key), .v (.int .i64 f.hi), .v (.int .i64 f.ot), .row 3 (f.ws.map encW) kk] 0) :: AV.junk :: AV.junk :: ((.v (.int .i64 (sumW f (ts.take j)))) :: AV.junk :: AV.junk :: ((.v (.int .i32 rr)) :: (.v (.int .i64 nn)) :: (.v (.int .i64 (curW f (rr : Int) (decide (t ≠ [255])) m))) :: (jnk 3 ((.row 1 (ts.map fun t => encS (bsOf t)) (some k)) :: (.v (.int .i64 ts.length)) :: (.v (.int .i64 j)) :: (jnk 11 ((.row 3 (f.ws.map encW) kk) :: (.v (.int .i64 f.ws.length)) :: (.v (.int .i64 m)) :: (jnk 26 []))))))))), [], h1⟩) f.ws.length ⟨0, by omega, rfl⟩ ?_
  rintro g2 _ ⟨m, hm, rfl⟩
  (repeat (first | refine gO rfl ?_ | (refine gM zM24 fun K1 hK1 => ?_; simp only [go_sem, ↓reduceIte, reduceCtorEq, nA, nB, nC, nD, nE, nF] <;> and_intros <;> (apply hK1; clear hK1 K1))))
  refine awp_cond (t := _) rfl (fun h6 => ?_) (fun h6 => ?_)
  ·simp only [decide_eq_true_eq] at h6
   have hml2 : m < f.ws.length := by omega
   have gw : (f.ws.map encW).getD m [] = encW (wAt f.ws m) := getD_enc encW f.ws m _ hml2
   have ht3 : ∀ w, List.take 3 (encW w) = encW w := fun _ => rfl
   have hl3 : ∀ w, (encW w).length = 3 := fun _ => rfl
   have hcw : curW f (rr : Int) (decide (t ≠ [255])) (m + 1) = if (decide (t ≠ [255]) && inB (wAt f.ws m) (rr : Int)) = true then (wAt f.ws m).2.2 else curW f (rr : Int) (decide (t ≠ [255])) m := rfl
   have hin := g_in (rr : Int) (wAt f.ws m).1 (wAt f.ws m).2.1 h1
   generalize wAt f.ws m = w at *
   obtain ⟨a, b, cc⟩ := w
   have hew : encW (a, b, cc) = [.v (.int .i64 a), .v (.int .i64 b), .v (.int .i64 cc)] := rfl
   unfold inB at hcw
   simp only at hin hcw
   (repeat (first | refine gO rfl ?_ | (refine gM zM24 fun K1 hK1 => ?_; simp only [go_sem, ↓reduceIte, reduceCtorEq, nA, nB, nC, nD, nE, nF, hml, Int.toNat_natCast, gw, ht3, hl3, hew] <;> and_intros <;> first | (apply hK1; clear hK1 K1) | (intros; (omega)) | skip)))
   refine hin.mono ?_; rintro _ hz ⟨rfl, hh⟩; apply hK1; clear hK1 K1; rw [hh]; clear hh hz
   cases hc1 : (decide (a ≤ (rr : Int)) && decide ((rr : Int) ≤ b)) with
   | false =>
    rw [hc1, Bool.and_false] at hcw
    (repeat (first | refine gO rfl ?_ | (refine gM zM24 fun K1 hK1 => ?_; simp only [go_sem, ↓reduceIte, reduceCtorEq, nA, nB, nC, nD, nE, nF, hc1] <;> and_intros <;> (apply hK1; clear hK1 K1))))
    refine awp_cond (t := _) rfl (fun h7 => by cases h7) (fun _ => ?_)
    (repeat (first | refine gO rfl ?_ | (refine gM zM24 fun K1 hK1 => ?_; simp only [go_sem, ↓reduceIte, reduceCtorEq, nA, nB, nC, nD, nE, nF] <;> and_intros <;> first | (apply hK1; clear hK1 K1) | (intros; (omega)))))
    exact ⟨g2 - 1, by omega, m + 1, by omega, by rw [hcw]; rfl⟩
   | true =>
    rw [hc1, Bool.and_true] at hcw
    by_cases e : t = [255]
    ·obtain ⟨e1, e2⟩ := h255.1 e
     have hd1 : decide (t ≠ [255]) = false := decide_eq_false (by simpa using e)
     rw [hd1] at hcw
     have d1 : ((rr : Int) != 65533) = false := by rw [e1]; rfl
     have d2 : ((1 : Int) < (nn : Int)) = False := eq_false (by omega)
     (repeat (first | refine gO rfl ?_ | (refine gM zM24 fun K1 hK1 => ?_; simp only [go_sem, ↓reduceIte, reduceCtorEq, nA, nB, nC, nD, nE, nF, hc1, d1, d2, decide_false] <;> and_intros <;> (apply hK1; clear hK1 K1))))
     refine awp_cond (t := _) rfl (fun h7 => by cases h7) (fun _ => ?_)
     (repeat (first | refine gO rfl ?_ | (refine gM zM24 fun K1 hK1 => ?_; simp only [go_sem, ↓reduceIte, reduceCtorEq, nA, nB, nC, nD, nE, nF] <;> and_intros <;> first | (apply hK1; clear hK1 K1) | (intros; (omega)))))
     exact ⟨g2 - 1, by omega, m + 1, by omega, by rw [hd1, hcw]; rfl⟩
    ·have hd1 : decide (t ≠ [255]) = true := decide_eq_true (by simpa using e)
     rw [hd1] at hcw
     have d1 : ((rr : Int) != 65533) = true := by
      have : rr ≠ 65533 := fun e1 => e (hr3 e1)
      simp; omega
     (repeat (first | refine gO rfl ?_ | (refine gM zM24 fun K1 hK1 => ?_; simp only [go_sem, ↓reduceIte, reduceCtorEq, nA, nB, nC, nD, nE, nF, hc1, d1] <;> and_intros <;> (apply hK1; clear hK1 K1))))
     refine awp_cond (t := _) rfl (fun _ => ?_) (fun h7 => by cases h7)
     (repeat (first | refine gO rfl ?_ | (refine gM zM24 fun K1 hK1 => ?_; simp only [go_sem, ↓reduceIte, reduceCtorEq, nA, nB, nC, nD, nE, nF] <;> and_intros <;> first | (apply hK1; clear hK1 K1) | (intros; (omega)))))
     exact ⟨g2 - 1, by omega, m + 1, by omega, by rw [hd1, hcw]; rfl⟩
  ·simp only [decide_eq_false_iff_not] at h6
   have hml2 : m = f.ws.length := by omega
   subst hml2
   rw [← hws]
   have hb2 := hg.fob.widS t
   (repeat (first | refine gO rfl ?_ | (refine gM zM24 fun K1 hK1 => ?_; simp only [go_sem, ↓reduceIte, reduceCtorEq, nA, nB, nC, nD, nE, nF] <;> and_intros <;> first | (apply hK1; clear hK1 K1) | (intros; (omega)))))
   exact ⟨g - 1, by omega, j + 1, by omega, by rw [hts2]; rfl⟩
 ·simp only [decide_eq_false_iff_not] at h5
  have hjl : j = ts.length := by omega
  subst hjl
  rw [List.take_length]
  (repeat (first | refine gO rfl ?_ | (refine gM zM24 fun K1 hK1 => ?_; simp only [go_sem, ↓reduceIte, reduceCtorEq, nA, nB, nC, nD, nE, nF] <;> and_intros <;> (apply hK1; clear hK1 K1))))
  simp only [Tryz.results13, go_sem, ↓reduceIte, reduceCtorEq, nA, nB, nC, nD, nE, nF]
  exact ⟨_, _, Weak.refl _, Hp.le.refl _, rfl, hgr⟩
def pixF (n : Int) : Int := if 1 ≤ n ∧ n ≤ 100000 then 0 else 1
theorem g_pixel (n : Int) (h : Hp) : ACalls Tryz.prog 17 [.v (.int .i64 n)] h (fun r h' => r = .v (.int .i64 (pixF n)) ∧ h' = h) := by
 have hi := g_in n 1 100000 h
 unfold pixF
 refine gE Tryz.func17 rfl (by kernel_rfl) 5 rfl fun c => ?_
 (repeat (first | refine gO rfl ?_ | (refine gR fun K1 hK1 => ?_; simp only [go_sem, ↓reduceIte, reduceCtorEq, nA, nB, nC, nD, nE, nF] <;> and_intros <;> first | (apply hK1; clear hK1 K1) | skip)))
 refine hi.mono ?_; rintro _ hz ⟨rfl, hh⟩; apply hK1; clear hK1 K1; rw [hh]; clear hh hz
 by_cases e : 1 ≤ n ∧ n ≤ 100000
 ·have d : (decide (1 ≤ n) && decide (n ≤ 100000)) = true := by simp; omega
  (repeat (first | refine gO rfl ?_ | (refine gR fun K1 hK1 => ?_; simp only [go_sem, ↓reduceIte, reduceCtorEq, nA, nB, nC, nD, nE, nF, d, Bool.not_true] <;> and_intros <;> (apply hK1; clear hK1 K1))))
  refine awp_cond (t := _) rfl (fun h6 => by cases h6) (fun _ => ?_)
  (repeat (first | refine gO rfl ?_ | (refine gR fun K1 hK1 => ?_; simp only [go_sem, ↓reduceIte, reduceCtorEq, nA, nB, nC, nD, nE, nF] <;> and_intros <;> (apply hK1; clear hK1 K1))))
  simp only [Tryz.results17, go_sem, ↓reduceIte, reduceCtorEq, nA, nB, nC, nD, nE, nF]
  exact ⟨_, _, Weak.refl _, Hp.le.refl _, by rw [if_pos e], rfl⟩
 ·have d : (decide (1 ≤ n) && decide (n ≤ 100000)) = false := by simp; omega
  (repeat (first | refine gO rfl ?_ | (refine gR fun K1 hK1 => ?_; simp only [go_sem, ↓reduceIte, reduceCtorEq, nA, nB, nC, nD, nE, nF, d, Bool.not_false] <;> and_intros <;> (apply hK1; clear hK1 K1))))
  refine awp_cond (t := _) rfl (fun _ => ?_) (fun h6 => by cases h6)
  (repeat (first | refine gO rfl ?_ | (refine gR fun K1 hK1 => ?_; simp only [go_sem, ↓reduceIte, reduceCtorEq, nA, nB, nC, nD, nE, nF] <;> and_intros <;> (apply hK1; clear hK1 K1))))
  simp only [Tryz.results17, go_sem, ↓reduceIte, reduceCtorEq, nA, nB, nC, nD, nE, nF]
  exact ⟨_, _, Weak.refl _, Hp.le.refl _, by rw [if_neg e], rfl⟩
theorem g_isNotWide (w : Int) (hw : ¬ (1 ≤ w ∧ w ≤ 100000)) (h : Hp) : ACalls Tryz.prog 50 [.v (.int .i64 w)] h (fun r h' => r = .v (.bool false) ∧ h' = h) := by
 have ho := a_outside w 1 100000 h
 have d1 : (decide (w < 1) || decide (100000 < w)) = true := by simp; omega
 rw [d1] at ho
 refine gE Tryz.func50 rfl (by kernel_rfl) 5 rfl fun c => ?_
 (repeat (first | refine gO rfl ?_ | (refine gR fun K1 hK1 => ?_; simp only [go_sem, ↓reduceIte, reduceCtorEq, nA, nB, nC, nD, nE, nF] <;> and_intros <;> first | (apply hK1; clear hK1 K1) | skip)))
 refine ho.mono ?_; rintro _ hz ⟨rfl, hh⟩; apply hK1; clear hK1 K1; rw [hh]; clear hh hz
 (repeat (first | refine gO rfl ?_ | (refine gR fun K1 hK1 => ?_; simp only [go_sem, ↓reduceIte, reduceCtorEq, nA, nB, nC, nD, nE, nF] <;> and_intros <;> (apply hK1; clear hK1 K1))))
 simp only [Tryz.results50, go_sem, ↓reduceIte, reduceCtorEq, nA, nB, nC, nD, nE, nF]
 exact ⟨_, _, Weak.refl _, Hp.le.refl _, rfl, rfl⟩
def fwF (f : Fo) (wide : Int) : Int := if fontF f = 0 then pixF wide else fontF f
theorem g_square (f : Fo) (kk : Option Nat) (l : List Tok) (wide : Int) (hl : ∀ t ∈ l, t ∈ toks) (hn : l.length ≤ 10000) (hw : 1 ≤ wide ∧ wide ≤ 100000) (hg : Good f) (k0 : Nat) (h : Hp) (hT : h.T k0 = some (.glb tabU)) :
  ACalls Tryz.prog 58 [encFo f kk, .v (.string (bsOf l.flatten)), .v (.int .i64 wide)] h (fun r h' => r = .v (.int .i64 (costT (sumW f l) wide)) ∧ Gr h h') := by
 have hfl : ∀ x, (encFo f x) = .agg [.v (.string f.key), .v (.int .i64 f.hi), .v (.int .i64 f.ot), .row 3 (f.ws.map encW) x] := fun _ => rfl
 have hwo := g_wideOfR f kk l hl hn hg k0 h hT
 rw [hfl] at hwo
 have hb := hg.fob.sum l
 have hc : costT (sumW f l) wide = max 0 (wide - sumW f l) * max 0 (wide - sumW f l) := by
  unfold costT
  split
  ·rw [show max 0 (wide - sumW f l) = 0 by omega]; rfl
  ·rw [show max 0 (wide - sumW f l) = wide - sumW f l by omega]
 have hsq : max 0 (wide - sumW f l) * max 0 (wide - sumW f l) ≤ 10000000000 := Int.mul_le_mul (show max 0 (wide - sumW f l) ≤ 100000 by omega) (show max 0 (wide - sumW f l) ≤ 100000 by omega) (by omega) (by omega)
 have hsq0 : 0 ≤ max 0 (wide - sumW f l) * max 0 (wide - sumW f l) := Int.mul_nonneg (by omega) (by omega)
 rw [hc]
 refine gE Tryz.func58 rfl (by kernel_rfl) 14 rfl fun c => ?_
 (repeat (first | refine gO rfl ?_ | (refine gR fun K1 hK1 => ?_; simp only [go_sem, ↓reduceIte, reduceCtorEq, nA, nB, nC, nD, nE, nF, hfl] <;> and_intros <;> first | (apply hK1; clear hK1 K1) | skip)))
 refine hwo.mono ?_
 rintro _ h2 ⟨rfl, hgr⟩; apply hK1; clear hK1 K1
 (repeat (first | refine gO rfl ?_ | (refine gR fun K1 hK1 => ?_; simp only [go_sem, ↓reduceIte, reduceCtorEq, nA, nB, nC, nD, nE, nF] <;> and_intros <;> first | (apply hK1; clear hK1 K1) | (intros; (omega)))))
 simp only [Tryz.results58, go_sem, ↓reduceIte, reduceCtorEq, nA, nB, nC, nD, nE, nF]
 exact ⟨_, _, Weak.refl _, Hp.le.refl _, rfl, hgr⟩
theorem row_line (ls : List (List Tok)) (j : Nat) (hj : j < ls.length) : (ls.map encLn).getD j [] = [.v (.string (bsOf ls[j].flatten))] := by
 rw [List.getD_eq_getElem?_getD, List.getElem?_map, List.getElem?_eq_getElem hj]; rfl
end Go.Proofs.YtlaakjlpfgfdkaaGreatDoor
