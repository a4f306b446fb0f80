/- strings.Builder in trees: the builder is a typed object, its bytes a written row. -/
import Derived.Test.YtlaakjlpfgfdkaaGreatDoorM1
import Derived.Test.YtlaakjlpfgfdkaaGreatDoorAvOwn
import Derived.Test.YtlaakjlpfgfdkaaGreatDoorAvOld
import Derived.Test.YtlaakjlpfgfdkaaGreatDoorAvUn
import Derived.Test.YtlaakjlpfgfdkaaGreatDoorShelf
import Derived.Test.YtlaakjlpfgfdkaaGreatDoorAvTy
import Derived.Test.YtlaakjlpfgfdkaaGreatDoorAvClr
import Derived.Test.YtlaakjlpfgfdkaaGreatDoorAvMap
namespace Go.Proofs.YtlaakjlpfgfdkaaGreatDoor
open Go
set_option linter.unusedVariables false
set_option linter.unusedSimpArgs false
open Nat renaming reduceAdd → nA, reduceSub → nB, reduceMul → nC, reduceLT → nD, reduceLeDiff → nE, reduceEqDiff → nF, reduceMod → nG, reduceDiv → nH, reducePow → nI
set_option maxRecDepth 100000
set_option maxHeartbeats 8000000
abbrev zM20 : Option Tmp → Nat := mdL [(6, 1)]
abbrev zM21 : Option Tmp → Nat := mdL [(4, 2)]
abbrev zM22 : Option Tmp → Nat := mdL [(4, 2), (6, 1), (8, 1), (9, 1)]
abbrev zM23 : Option Tmp → Nat := mdL [(5, 1), (9, 1)]
abbrev zM24 : Option Tmp → Nat := mdL [(28, 2)]
abbrev zM25 : Option Tmp → Nat := mdL [(41, 1)]
abbrev zM26 : Option Tmp → Nat := mdL []
abbrev zM27 : Option Tmp → Nat := mdL [(16, 3)]
abbrev zM28 : Option Tmp → Nat := mdL [(4, 3), (5, 1)]
abbrev zM29 : Option Tmp → Nat := mdL [(8, 2), (77, 2)]
attribute [go_sem] zM20 zM21 zM22 zM23 zM24 zM25 zM26 zM27 zM28 zM29
section
variable {P : Program} {c : Cx} {Q : Exit → St → Prop} {s : St} {ty : Nat → Option TyD} {o : Oper}
theorem a_allocObj (hty : TyOk P ty) {t : Nat} (ho : o.op = .alloc t) {d : TyD} (hd : ty t = some d) {K : St → Prop}
  (hK : ∀ i, s.h.H i = none → K ({ s with h := { s.h with H := upd s.h.H i (some (.obj t d.zero)) } }.put o.dst (.ptr i 0))) : Aop P c o s K := by
 rintro a w ⟨G, L, sm, hg, hf, hL⟩ Kc Qc hk
 obtain ⟨z, hz, hzz, h1⟩ := zero_run (hty _ _ hd) w
 have hr : RepL G d.zero z.cells.toList := by rw [hzz]; exact RepL.map_v G h1
 obtain ⟨hn, s1, g1, f1, e1⟩ := sm.newObj (y := .obj t d.zero) (o := .cells z.cells.toList.toArray t) ⟨_, rfl, by simpa using hr⟩
 unfold Oper.wp
 have hrun : (execOp a.eval o).run P w = .ok (.value (.pointer (some ⟨w.heap.size, 0, none⟩))) (w.alloc (.cells z.cells.toList.toArray t)) := by
  simp [execOp, ho, Instr.alloc, hz, newVar, newRow]
 rw [hrun]
 exact hk _ _ _ (hK _ hn) (In.put s1 (hg.trans g1) (hf.trans f1) hL o.dst (RepT.of (.ptr _ 0 _ e1)))
theorem awp_allocT (hty : TyOk P ty) {id t : Nat} (ho : o.op = .alloc t) (hg : o.guard = none) {d : TyD} (hd : ty t = some d)
  (h : ∀ i, s.h.H i = none → Q .normal ({ s with h := { s.h with H := upd s.h.H i (some (.obj t d.zero)) } }.put o.dst (.ptr i 0))) : Awp P c (.region id #[o] false) Q s := by
 intro a w hi
 refine wp_region_list ?_
 have h2 := a_allocObj (c := c) hty ho hd (K := Q .normal) h a w hi
 have hw : Region.wanted o (yielded #[o] a.tmps) = true := by simp [Region.wanted, hg]
 unfold wpList
 rw [if_pos hw]
 refine .inl (h2 _ _ fun s' a' w' hs hi' => ?_)
 exact ⟨s', hs, hi'⟩
end
theorem one_ptr {G : Gh} {h : Hp} {w : World} {b : Nat} {vs : Array Value} (hv : vs.size = 1) (ha : ∀ j (hj : j < [AV.ptr b 0].length), Rep G [AV.ptr b 0][j] (vs.getD j undef)) : ∃ p, vs = #[.pointer (some ⟨p, 0, none⟩)] ∧ G.at_ b = some p := by
 have hr := ha 0 (by simp)
 have hvs : vs = #[vs.getD 0 undef] := by
  apply Array.ext (by simpa using hv)
  intro j hj hj'
  simp only [List.size_toArray, List.length_cons, List.length_nil] at hj'
  obtain rfl : j = 0 := by omega
  simp [Array.getD, hv]
 rw [hvs]
 generalize vs.getD 0 undef = v at hr
 simp only [List.getElem_cons_zero] at hr
 cases hr with
 | ptr _ _ p hat => exact ⟨p, rfl, hat⟩
theorem two_cells {G : Gh} {X Y : AV} {vs : Array Value} (h : RepL G [X, Y] vs.toList) : ∃ x y, vs = #[x, y] ∧ Rep G X x ∧ Rep G Y y := by
 obtain ⟨h1, h2⟩ := h
 have hs : vs.size = 2 := by simpa using h1
 refine ⟨vs[0], vs[1], ?_, ?_, ?_⟩
 ·apply Array.ext (by simpa using hs)
  intro j a b
  have : j = 0 ∨ j = 1 := by simp at b; omega
  rcases this with rfl | rfl <;> rfl
 ·have := (h2 0 (by simp) (by simp; omega)).1; simpa using this
 ·have := (h2 1 (by simp) (by simp; omega)).1; simpa using this
theorem g_copyCheck (b : Nat) (X Y : AV) (h : Hp) (hb : h.H b = some (.obj 74 [X, Y])) (hX : X = .v (.pointer none) ∨ X = .ptr b 0) :
  ACalls Tryz.prog 71 [.ptr b 0] h (fun r h' => r = .tup [] ∧ h' = { h with H := upd h.H b (some (.obj 74 [.ptr b 0, Y])) }) := by
 refine acalls_mk (by kernel_rfl) fun G w vs hs hv ha => ?_
 obtain ⟨p, rfl, hat⟩ := one_ptr (h := h) (w := w) hv ha
 obtain ⟨p', ob, e', hh, ⟨us, rfl, hrr⟩, hval⟩ := hs.obj b _ hb
 rw [hat] at e'; cases e'
 obtain ⟨x, y, rfl, hx, hy⟩ := two_cells hrr
 have hO : Own G h p := .inl ⟨b, by rw [hb]; simp, hat⟩
 have hre : RepL G [.ptr b 0, Y] [.pointer (some ⟨p, 0, none⟩), y] := by
  refine RepL.cons (.ptr b 0 p hat) rfl (RepL.cons hy ?_ (RepL.nil G))
  have := (hrr.2 1 (by simp) (by simp)).2
  simpa using this
 rcases hX with rfl | rfl
 ·obtain rfl : x = .pointer none := (RepT.of (L := []) hx).v_inv
  have hc0 : w.cell? ⟨p, 0, none⟩ = some (.pointer none) := by simp [World.cell?, hh]
  refine (copyCheck_fresh p w hc0 (by simp [World.shape?, hh]) (by simp [World.frozen?, hh])).mono ?_
  rintro e w' ⟨rfl, rfl⟩
  have hh' : (w.setCell ⟨p, 0, none⟩ (.pointer (some ⟨p, 0, none⟩))).heap[p]? = some (.cells #[.pointer (some ⟨p, 0, none⟩), y] 74 (0, 0)) := by
   exact heap_setCell_same w p 0 _ _ _ hh
  have hoth : ∀ q, q ≠ p → (w.setCell ⟨p, 0, none⟩ (.pointer (some ⟨p, 0, none⟩))).heap[q]? = w.heap[q]? := fun q hq => heap_setCell_other w _ q _ hq
  refine ⟨_, rfl, .tup [], _, G, ⟨rfl, rfl⟩, GLe.refl _, ?_, hs.setObj hb hat hoth hh' ⟨_, rfl, hre⟩, .tup [] #[] (fun _ => undef) rfl (fun j hj => by simp at hj) (fun j hj => by simp at hj)⟩
  exact ⟨rfl, rfl, rfl, by simp [World.setCell], fun q hlt hn => ⟨hoth q (fun e => hn (e ▸ hO)), fun o' => hn ((own_updH hb).1 o'), fun _ => rfl⟩⟩
 ·have hxe : x = .pointer (some ⟨p, 0, none⟩) := by
   cases hx with
   | ptr _ _ p2 hat2 => rw [hat] at hat2; cases hat2; rfl
  subst hxe
  have hc0 : w.cell? ⟨p, 0, none⟩ = some (.pointer (some ⟨p, 0, none⟩)) := by simp [World.cell?, hh]
  refine (copyCheck_used p w hc0).mono ?_
  rintro e w' ⟨rfl, rfl⟩
  refine ⟨_, rfl, .tup [], _, G, ⟨rfl, rfl⟩, GLe.refl _, ?_, hs.setObj hb hat (fun _ _ => rfl) hh ⟨_, rfl, hre⟩, .tup [] #[] (fun _ => undef) rfl (fun j hj => by simp at hj) (fun j hj => by simp at hj)⟩
  exact ⟨rfl, rfl, rfl, Nat.le_refl _, fun q hlt hn => ⟨rfl, fun o' => hn ((own_updH hb).1 o'), fun _ => rfl⟩⟩
def rowB (l : List UInt8) : List (List AV) := l.map fun x => [.v (.int .u8 (x.toNat : Int))]
theorem rowB_app (l : List UInt8) (s : ByteArray) : rowB l ++ strRow s = rowB (l ++ s.data.toList) := by simp [rowB, strRow]
theorem g_writeString (b k n : Nat) (X : AV) (s : ByteArray) (l : List UInt8) (h : Hp) (hb : h.H b = some (.obj 74 [X, .arr 1 k n])) (hX : X = .v (.pointer none) ∨ X = .ptr b 0) (hT : h.T k = some (.buf 5 (rowB l))) (hn : l.length = n) (hbig : l.length + s.size ≤ 1000000000) :
  ACalls Tryz.prog 41 [.ptr b 0, .v (.string s)] h (fun r h' => r = .tup [.v (.int .i64 s.size), .v .nilIface] ∧ h' = ⟨upd h.H b (some (.obj 74 [.ptr b 0, .arr 1 k (n + s.size)])), upd h.T k (some (.buf 5 (rowB (l ++ s.data.toList))))⟩) := by
 have hl : (rowB l).length = l.length := by simp [rowB]
 rw [← rowB_app]
 generalize rowB l = bs at *
 refine gE Tryz.func41 rfl (by kernel_rfl) 17 rfl fun c => ?_
 (repeat (first | refine gO rfl ?_ | (refine gR fun K1 hK1 => ?_; simp only [go_sem, ↓reduceIte, reduceCtorEq, nA, nB, nC, nD, nE, nF] <;> and_intros <;> first | (apply hK1; clear hK1 K1) | (intros; first | omega | decide | (simp_all <;> omega)) | skip)))
 refine (g_copyCheck b X _ h hb hX).mono ?_; rintro _ hz ⟨rfl, hh⟩; apply hK1; clear hK1 K1; rw [hh]; clear hh hz
 (repeat (first | refine gO rfl ?_ | (refine gR fun K1 hK1 => ?_; simp only [go_sem, ↓reduceIte, reduceCtorEq, nA, nB, nC, nD, nE, nF, upd_same, hT] <;> and_intros <;> first | (apply hK1; clear hK1 K1) | (intros; first | omega | decide | (simp_all <;> omega)) | skip)))
 simp only [Tryz.results41, go_sem, ↓reduceIte, reduceCtorEq, nA, nB, nC, nD, nE, nF]
 exact ⟨_, _, Weak.refl _, Hp.le.refl _, rfl, rfl⟩
open Go.RowKit in
theorem bString_row (b g cap : Nat) (cur : Array Value) (p : Value) (l : List UInt8) (w : World) (h0 : l ≠ []) (hbk : w.heap[b]? = some (.cells #[p, .slice (some ⟨g, 0, none⟩) l.length cap] 74 (0, 0))) (hg : w.heap[g]? = some (.cells cur 5 (0, 0)))
  (hnc : l.length ≤ cap) (hcm : cap ≤ maxLen) (hcs : cur.size = cap) (htake : cur.toList.take l.length = Lib.byteCells l) :
  Calls Tryz.prog 42 #[.pointer (some ⟨b, 0, none⟩)] w fun e w' => e = .returned (.string ⟨l.toArray⟩) ∧ w' = w.drew.freeze ⟨g, 0, none⟩ l.length := by
 have hl0 : l.length ≠ 0 := by simpa using h0
 have c1 : w.drew.cell? ⟨b, 1, none⟩ = some (.slice (some ⟨g, 0, none⟩) l.length cap) := by
  have : w.drew.heap[b]? = some (.cells #[p, .slice (some ⟨g, 0, none⟩) l.length cap] 74 (0, 0)) := hbk
  rw [Lib.cell_of_heap this]; rfl
 have hSD : (Builtin.unsafeSliceData_ #[72] 116 #[.slice (some ⟨g, 0, none⟩) l.length cap]).run Tryz.prog w.drew = .ok (.pointer (some ⟨g, 0, none⟩)) w.drew :=
  Lib.run_unsafeSliceData_row _ _ _ _ _ _ (by omega)
 have hUS : (Builtin.unsafeString_ #[116, 3] 9 #[.pointer (some ⟨g, 0, none⟩), .int .i64 l.length]).run Tryz.prog w.drew = .ok (.string ⟨l.toArray⟩) (w.drew.freeze ⟨g, 0, none⟩ l.length) := by
  refine Lib.run_unsafeString_row w.drew 116 3 9 5 Tryz.underlying116 (by kernel_rfl) g cur.size (by have hg' : w.drew.heap[g]? = some (.cells cur 5 (0, 0)) := hg; simp [World.shape?, hg']) l h0 (by omega) (by unfold maxLen at hcm; omega) ?_
  intro j x hx
  have hg' : w.drew.heap[g]? = some (.cells cur 5 (0, 0)) := hg
  have h1 : (cur.toList.take l.length)[j]? = some (.int .u8 x.toNat) := by rw [htake]; simp [Lib.byteCells, hx]
  rw [Addr.add_lit, Nat.zero_add, Lib.cell_of_heap hg']
  rw [List.getElem?_take] at h1
  split at h1
  ·simpa using h1
  ·cases h1
 have mixed : Tryz.prog.follows .mixedOrders = true := by kernel_rfl
 go_enter Tryz.func42, Tryz.ntmps42
 go_wp2
 go_region_o
 all_goals (go_wp2; go_ret; exact ⟨rfl, rfl⟩)
theorem HSim.other {G : Gh} {h : Hp} {w w' : World} (hs : HSim G h w) {B : Nat} (hb : ∀ b, b ≠ B → w'.heap[b]? = w.heap[b]?) (hv : ∀ o, G.val B o = none) (hn : ¬ Own G h B) : HSim G h w' where
 val b o x e := by
  have hne : b ≠ B := fun e' => by subst e'; rw [hv] at e; cases e
  rw [cellT_at (hb b hne)]; exact hs.val b o x e
 obj j ob e := by
  obtain ⟨b, o', x, y, z⟩ := hs.obj j ob e
  have hne : b ≠ B := fun e' => hn (.inl ⟨j, by rw [e]; simp, by rw [← e']; exact x⟩)
  exact ⟨b, o', x, by rw [hb b hne]; exact y, z⟩
 inj := hs.inj
 tok k m e := by
  refine (hs.tok k m e).move (GLe.refl G) rfl fun t a => ⟨?_, fun _ => rfl⟩
  have hne : t.g ≠ B := fun e' => hn (.inr ⟨k, t, by rw [e]; simp, a, e'⟩)
  rw [hb _ hne]
 tinj := hs.tinj
 tobj := hs.tobj
 fat := hs.fat
 ftl := hs.ftl
theorem repB {G : Gh} {l : List UInt8} {vs : List Value} (h : RepL G (rowB l).flatten vs) : vs = Lib.byteCells l := by
 have hf : (rowB l).flatten = (Lib.byteCells l).map AV.v := by
  unfold rowB Lib.byteCells
  clear h
  induction l with
  | nil => rfl
  | cons x l ih => simp [ih]
 rw [hf] at h
 obtain ⟨h1, h2⟩ := h
 apply List.ext_getElem (by simpa using h1)
 intro j a b
 have h3 := (h2 j (by simpa using b) a).1
 simp only [List.getElem_map] at h3
 generalize vs[j] = y at h3
 cases h3; rfl
theorem g_bString (b k : Nat) (X : AV) (l : List UInt8) (h : Hp) (hb : h.H b = some (.obj 74 [X, .arr 1 k l.length])) (hT : h.T k = some (.buf 5 (rowB l))) (h0 : l ≠ []) :
  ACalls Tryz.prog 42 [.ptr b 0] h (fun r h' => r = .v (.string ⟨l.toArray⟩) ∧ h' = ⟨upd h.H b none, upd h.T k none⟩) := by
 refine acalls_mk (by kernel_rfl) fun G w vs hs hv ha => ?_
 obtain ⟨p, rfl, hat⟩ := one_ptr (h := h) (w := w) hv ha
 obtain ⟨p', ob, e', hh, ⟨us, rfl, hrr⟩, hval⟩ := hs.obj b _ hb
 rw [hat] at e'; cases e'
 obtain ⟨x, y, rfl, hx, hy⟩ := two_cells hrr
 have hrl : (rowB l).length = l.length := by simp [rowB]
 have hne : rowB l ≠ [] := fun e => h0 (by rw [e] at hrl; exact List.eq_nil_of_length_eq_zero hrl.symm)
 rcases hs.tok k _ hT with ⟨_, e1⟩ | ⟨tt, cur, htl, htm, htp, hth, hts, htc, htcm, htf, htz, hzx, htr⟩
 ·exact absurd e1 hne
 cases hy with
 | arr _ _ _ q m c ho =>
 obtain ⟨_, ⟨q', c', e2, _, _⟩, hm⟩ := ho
 rw [htl] at hm
 obtain ⟨hxe, _⟩ := hm.2 (by rw [htm, hrl])
 simp only [Value.slice.injEq] at hxe e2
 obtain ⟨rfl, rfl, rfl⟩ := hxe
 have hfl : (rowB l).flatten.length = l.length := by rw [flatten_len hzx, hrl, Nat.mul_one]
 rw [hfl] at htr
 refine (bString_row p tt.g tt.c cur x l w h0 hh hth (by omega) htcm (by rw [hts, htz, Nat.mul_one]) (repB htr)).mono ?_
 rintro e w' ⟨rfl, rfl⟩
 have hbel : RowKit.Below tt.g w (w.drew.freeze ⟨tt.g, 0, none⟩ l.length) := Lib.below_freeze (RowKit.Below.drew (RowKit.Below.refl tt.g w)) (p := ⟨tt.g, 0, none⟩) (Nat.le_refl _) _
 have hoth : ∀ q, q ≠ tt.g → (w.drew.freeze ⟨tt.g, 0, none⟩ l.length).heap[q]? = w.heap[q]? := fun q hq => by
  unfold World.freeze
  split
  ·rfl
  ·show (w.drew.heap.modify tt.g _)[q]? = _
   rw [Array.getElem?_modify, if_neg (fun e => hq e.symm)]; rfl
 have hle : Hp.le ⟨upd h.H b none, upd h.T k none⟩ h := ⟨fun i => by
  by_cases e : i = b
  ·left; rw [e]; exact upd_same _ _ _
  ·right; exact upd_other _ _ e, fun i => by
  by_cases e : i = k
  ·left; rw [e]; exact upd_same _ _ _
  ·right; exact upd_other _ _ e⟩
 have hnO : ¬ Own G ⟨upd h.H b none, upd h.T k none⟩ tt.g := by
  rintro (⟨i, a, e⟩ | ⟨k2, t2, a, e, eg⟩)
  ·exact hs.tobj k i tt (by rw [hT]; simp) (hle.Hne a) htl e
  ·have := hs.tinj k2 k t2 tt (hle.Tne a) (by rw [hT]; simp) e htl eg
   subst this
   exact a (upd_same _ _ _)
 have hO : Own G h tt.g := .inr ⟨k, tt, by rw [hT]; simp, htl, rfl⟩
 refine ⟨_, rfl, .v (.string ⟨l.toArray⟩), _, G, ⟨rfl, rfl⟩, GLe.refl _, ?_, (hs.less hle).other hoth htf hnO, .v _ rfl⟩
 exact ⟨hbel.os, hbel.tape, hbel.output, hbel.size, fun q hlt hn => ⟨hoth q (fun e => hn (e ▸ hO)), fun o' => hn (hle.own o'), fun _ => rfl⟩⟩
open Go
set_option linter.unusedVariables false
set_option linter.unusedSimpArgs false
open Nat renaming reduceAdd → nA, reduceSub → nB, reduceMul → nC, reduceLT → nD, reduceLeDiff → nE, reduceEqDiff → nF, reduceMod → nG, reduceDiv → nH, reducePow → nI
set_option maxRecDepth 100000
set_option maxHeartbeats 8000000
section
variable {P : Program} {c : Cx} {s : St} {ty : Nat → Option TyD} {o : Oper}
theorem a_boxObj {t : Nat} {x : Operand} (ho : o.op = .box t x) {cs : List AV} (hc : (s.ev x).cellsB = some cs) {K : St → Prop}
  (hK : ∀ i, s.h.H i = none → K ({ s with h := { s.h with H := upd s.h.H i (some (.obj t cs)) } }.put o.dst (.ptr i 0))) : Aop P c o s K := by
 rintro a w ⟨G, L, sm, hg, hf, hL⟩ Kc Qc hk
 have hr := cellsB_sound (sm.ev x) hc
 obtain ⟨hn, s1, g1, f1, e1⟩ := sm.newObj (y := .obj t cs) (o := .cells (a.eval x).cells.toList.toArray t) ⟨_, rfl, by simpa using hr⟩
 unfold Oper.wp
 have hrun : (execOp a.eval o).run P w = .ok (.value (.pointer (some ⟨w.heap.size, 0, none⟩))) (w.alloc (.cells (a.eval x).cells.toList.toArray t)) := by
  simp [execOp, ho, Instr.box, newVar, newRow]
 rw [hrun]
 exact hk _ _ _ (hK _ hn) (In.put s1 (hg.trans g1) (hf.trans f1) hL o.dst (RepT.of (.ptr _ 0 _ e1)))
end
open Go.RowKit in
theorem w_ccAt (b : Nat) (w : World) (n : Nat) (h0 : w.cell? ⟨b, 2, none⟩ = some (.pointer none)) (hsh : w.shape? b = some (132, 5)) (hfz : w.frozen? ⟨b, 2, none⟩ = false) :
  Calls Tryz.prog 71 #[.pointer (some ⟨b, 2, none⟩)] w fun e w' => e = .returned (.tuple #[]) ∧ w' = w.setCell ⟨b, 2, none⟩ (.pointer (some ⟨b, 2, none⟩)) := by
 obtain ⟨j, hj, hjs⟩ := Option.map_eq_some_iff.1 sizeBuilder
 go_enter Tryz.func71, Tryz.ntmps71
 go_wp2
 rw [Lib.run_to_unsafe w ⟨b, 2, none⟩ Tryz.underlying71 Tryz.underlying159 hj (by rw [hjs]; decide) hsh (by show 2 < 5; omega)]
 simp only [Result.andThen]
 rw [Oper.upon_value]
 go_wp2
 rw [run_callFunc_extern Tryz.func102 (by kernel_rfl) (by kernel_rfl) (by kernel_rfl) (e := Extern.AbiNoEscape.same) (by kernel_rfl)]
 rw [Lib.run_noEscape]
 simp only [Result.andThen]
 rw [Oper.upon_value]
 go_wp2
 rw [Lib.run_from_unsafe w ⟨b, 2, none⟩ Tryz.underlying159 Tryz.underlying71 hj hsh (by kernel_rfl)]
 simp only [Result.andThen]
 rw [Oper.upon_value]
 go_wp2
 go_end0
 exact ⟨rfl, rfl⟩
theorem five_cells {G : Gh} {A B C D E : AV} {vs : Array Value} (h : RepL G [A, B, C, D, E] vs.toList) : ∃ a b c d e, vs = #[a, b, c, d, e] ∧ Rep G A a ∧ Rep G B b ∧ Rep G C c ∧ Rep G D d ∧ Rep G E e ∧ a.oneCell' = true ∧ b.oneCell' = true ∧ d.oneCell' = true ∧ e.oneCell' = true := by
 obtain ⟨h1, h2⟩ := h
 have hs : vs.size = 5 := by simpa using h1
 refine ⟨vs[0], vs[1], vs[2], vs[3], vs[4], ?_, ?_⟩
 ·apply Array.ext (by simpa using hs)
  intro j a b
  have : j = 0 ∨ j = 1 ∨ j = 2 ∨ j = 3 ∨ j = 4 := by simp at b; omega
  rcases this with rfl | rfl | rfl | rfl | rfl <;> rfl
 ·have a0 := h2 0 (by simp) (by simp; omega)
  have a1 := h2 1 (by simp) (by simp; omega)
  have a2 := h2 2 (by simp) (by simp; omega)
  have a3 := h2 3 (by simp) (by simp; omega)
  have a4 := h2 4 (by simp) (by simp; omega)
  simp only [List.getElem_cons_zero, List.getElem_cons_succ, Array.getElem_toList] at a0 a1 a2 a3 a4
  exact ⟨a0.1, a1.1, a2.1, a3.1, a4.1, a0.2, a1.2, a3.2, a4.2⟩
theorem one_ptrAt {G : Gh} {b o : Nat} {vs : Array Value} (hv : vs.size = 1) (ha : ∀ j (hj : j < [AV.ptr b o].length), Rep G [AV.ptr b o][j] (vs.getD j undef)) : ∃ p, vs = #[.pointer (some ⟨p, o, none⟩)] ∧ G.at_ b = some p := by
 have hr := ha 0 (by simp)
 have hvs : vs = #[vs.getD 0 undef] := by
  apply Array.ext (by simpa using hv)
  intro j hj hj'
  simp only [List.size_toArray, List.length_cons, List.length_nil] at hj'
  obtain rfl : j = 0 := by omega
  simp [Array.getD, hv]
 rw [hvs]
 generalize vs.getD 0 undef = v at hr
 simp only [List.getElem_cons_zero] at hr
 cases hr with
 | ptr _ _ p hat => exact ⟨p, rfl, hat⟩
theorem g_ccAt (b : Nat) (D R Y I : AV) (h : Hp) (hb : h.H b = some (.obj 132 [D, R, .v (.pointer none), Y, I])) :
  ACalls Tryz.prog 71 [.ptr b 2] h (fun r h' => r = .tup [] ∧ h' = { h with H := upd h.H b (some (.obj 132 [D, R, .ptr b 2, Y, I])) }) := by
 refine acalls_mk (by kernel_rfl) fun G w vs hs hv ha => ?_
 obtain ⟨p, rfl, hat⟩ := one_ptrAt hv ha
 obtain ⟨p', ob, e', hh, ⟨us, rfl, hrr⟩, hval⟩ := hs.obj b _ hb
 rw [hat] at e'; cases e'
 obtain ⟨d, r, x, y, i, rfl, hd, hrw, hx, hy, hi, od, orr, oy, oi⟩ := five_cells hrr
 have hO : Own G h p := .inl ⟨b, by rw [hb]; simp, hat⟩
 have hre : RepL G [D, R, .ptr b 2, Y, I] [d, r, .pointer (some ⟨p, 2, none⟩), y, i] :=
  RepL.cons hd od (RepL.cons hrw orr (RepL.cons (.ptr b 2 p hat) rfl (RepL.cons hy oy (RepL.cons hi oi (RepL.nil G)))))
 obtain rfl : x = .pointer none := (RepT.of (L := []) hx).v_inv
 have hc0 : w.cell? ⟨p, 2, none⟩ = some (.pointer none) := by simp [World.cell?, hh]
 refine (w_ccAt p w 0 hc0 (by simp [World.shape?, hh]) (by simp [World.frozen?, hh])).mono ?_
 rintro e w' ⟨rfl, rfl⟩
 have hh' : (w.setCell ⟨p, 2, none⟩ (.pointer (some ⟨p, 2, none⟩))).heap[p]? = some (.cells #[d, r, .pointer (some ⟨p, 2, none⟩), y, i] 132 (0, 0)) := by
  exact heap_setCell_same w p 2 _ _ _ hh
 have hoth : ∀ q, q ≠ p → (w.setCell ⟨p, 2, none⟩ (.pointer (some ⟨p, 2, none⟩))).heap[q]? = w.heap[q]? := fun q hq => heap_setCell_other w _ q _ hq
 refine ⟨_, rfl, .tup [], _, G, ⟨rfl, rfl⟩, GLe.refl _, ?_, hs.setObj hb hat hoth hh' ⟨_, rfl, hre⟩, .tup [] #[] (fun _ => undef) rfl (fun j hj => by simp at hj) (fun j hj => by simp at hj)⟩
 exact ⟨rfl, rfl, rfl, by simp [World.setCell], fun q hlt hn => ⟨hoth q (fun e => hn (e ▸ hO)), fun o' => hn ((own_updH hb).1 o'), fun _ => rfl⟩⟩
theorem g_writeAt (b k : Nat) (D R I : AV) (s : ByteArray) (h : Hp) (hb : h.H b = some (.obj 132 [D, R, .v (.pointer none), .arr 1 k 0, I])) (hT : h.T k = some (.buf 5 (rowB []))) (hbig : s.size ≤ 1000000000) :
  ACalls Tryz.prog 41 [.ptr b 2, .v (.string s)] h (fun r h' => r = .tup [.v (.int .i64 s.size), .v .nilIface] ∧ h' = ⟨upd h.H b (some (.obj 132 [D, R, .ptr b 2, .arr 1 k s.size, I])), upd h.T k (some (.buf 5 (rowB s.data.toList)))⟩) := by
 have hl : (rowB []).length = 0 := rfl
 have ha : rowB [] ++ strRow s = rowB s.data.toList := rowB_app [] s
 rw [← ha]
 generalize rowB [] = bs at *
 refine gE Tryz.func41 rfl (by kernel_rfl) 17 rfl fun c => ?_
 (repeat (first | refine gO rfl ?_ | (refine gR fun K1 hK1 => ?_; simp only [go_sem, ↓reduceIte, reduceCtorEq, nA, nB, nC, nD, nE, nF] <;> and_intros <;> first | (apply hK1; clear hK1 K1) | (intros; first | omega | decide | (simp_all <;> omega)) | skip)))
 refine (g_ccAt b D R _ I h hb).mono ?_; rintro _ hz ⟨rfl, hh⟩; apply hK1; clear hK1 K1; rw [hh]; clear hh hz
 (repeat (first | refine gO rfl ?_ | (refine gR fun K1 hK1 => ?_; simp only [go_sem, ↓reduceIte, reduceCtorEq, nA, nB, nC, nD, nE, nF, upd_same, hT] <;> and_intros <;> first | (apply hK1; clear hK1 K1) | (intros; first | omega | decide | (simp_all <;> omega)) | skip)))
 simp only [Tryz.results41, go_sem, ↓reduceIte, reduceCtorEq, nA, nB, nC, nD, nE, nF]
 exact ⟨_, _, Weak.refl _, Hp.le.refl _, rfl, by simp only [Nat.zero_add]⟩
open Go.RowKit in
theorem w_strAt (b g cap : Nat) (cur : Array Value) (d r p i : Value) (l : List UInt8) (w : World) (h0 : l ≠ []) (hbk : w.heap[b]? = some (.cells #[d, r, p, .slice (some ⟨g, 0, none⟩) l.length cap, i] 132 (0, 0))) (hg : w.heap[g]? = some (.cells cur 5 (0, 0)))
  (hnc : l.length ≤ cap) (hcm : cap ≤ maxLen) (hcs : cur.size = cap) (htake : cur.toList.take l.length = Lib.byteCells l) :
  Calls Tryz.prog 42 #[.pointer (some ⟨b, 2, none⟩)] w fun e w' => e = .returned (.string ⟨l.toArray⟩) ∧ w' = w.drew.freeze ⟨g, 0, none⟩ l.length := by
 have hl0 : l.length ≠ 0 := by simpa using h0
 have c1 : w.drew.cell? ⟨b, 3, none⟩ = some (.slice (some ⟨g, 0, none⟩) l.length cap) := by
  have : w.drew.heap[b]? = some (.cells #[d, r, p, .slice (some ⟨g, 0, none⟩) l.length cap, i] 132 (0, 0)) := hbk
  rw [Lib.cell_of_heap this]; rfl
 have hSD : (Builtin.unsafeSliceData_ #[72] 116 #[.slice (some ⟨g, 0, none⟩) l.length cap]).run Tryz.prog w.drew = .ok (.pointer (some ⟨g, 0, none⟩)) w.drew :=
  Lib.run_unsafeSliceData_row _ _ _ _ _ _ (by omega)
 have hUS : (Builtin.unsafeString_ #[116, 3] 9 #[.pointer (some ⟨g, 0, none⟩), .int .i64 l.length]).run Tryz.prog w.drew = .ok (.string ⟨l.toArray⟩) (w.drew.freeze ⟨g, 0, none⟩ l.length) := by
  refine Lib.run_unsafeString_row w.drew 116 3 9 5 Tryz.underlying116 (by kernel_rfl) g cur.size (by have hg' : w.drew.heap[g]? = some (.cells cur 5 (0, 0)) := hg; simp [World.shape?, hg']) l h0 (by omega) (by unfold maxLen at hcm; omega) ?_
  intro j x hx
  have hg' : w.drew.heap[g]? = some (.cells cur 5 (0, 0)) := hg
  have h1 : (cur.toList.take l.length)[j]? = some (.int .u8 x.toNat) := by rw [htake]; simp [Lib.byteCells, hx]
  rw [Addr.add_lit, Nat.zero_add, Lib.cell_of_heap hg']
  rw [List.getElem?_take] at h1
  split at h1
  ·simpa using h1
  ·cases h1
 have mixed : Tryz.prog.follows .mixedOrders = true := by kernel_rfl
 go_enter Tryz.func42, Tryz.ntmps42
 go_wp2
 go_region_o
 all_goals (go_wp2; go_ret; exact ⟨rfl, rfl⟩)
theorem g_strAt (b k : Nat) (D R X I : AV) (l : List UInt8) (h : Hp) (hb : h.H b = some (.obj 132 [D, R, X, .arr 1 k l.length, I])) (hT : h.T k = some (.buf 5 (rowB l))) (h0 : l ≠ []) :
  ACalls Tryz.prog 42 [.ptr b 2] h (fun r h' => r = .v (.string ⟨l.toArray⟩) ∧ h' = ⟨upd h.H b none, upd h.T k none⟩) := by
 refine acalls_mk (by kernel_rfl) fun G w vs hs hv ha => ?_
 obtain ⟨p, rfl, hat⟩ := one_ptrAt hv ha
 obtain ⟨p', ob, e', hh, ⟨us, rfl, hrr⟩, hval⟩ := hs.obj b _ hb
 rw [hat] at e'; cases e'
 obtain ⟨d, r, x, y, i, rfl, hd, hrw, hx, hy, hi, od, orr, oy, oi⟩ := five_cells hrr
 have hrl : (rowB l).length = l.length := by simp [rowB]
 have hne : rowB l ≠ [] := fun e => h0 (by rw [e] at hrl; exact List.eq_nil_of_length_eq_zero hrl.symm)
 rcases hs.tok k _ hT with ⟨_, e1⟩ | ⟨tt, cur, htl, htm, htp, hth, hts, htc, htcm, htf, htz, hzx, htr⟩
 ·exact absurd e1 hne
 cases hy with
 | arr _ _ _ q m c ho =>
 obtain ⟨_, ⟨q', c', e2, _, _⟩, hm⟩ := ho
 rw [htl] at hm
 obtain ⟨hxe, _⟩ := hm.2 (by rw [htm, hrl])
 simp only [Value.slice.injEq] at hxe e2
 obtain ⟨rfl, rfl, rfl⟩ := hxe
 have hfl : (rowB l).flatten.length = l.length := by rw [flatten_len hzx, hrl, Nat.mul_one]
 rw [hfl] at htr
 refine (w_strAt p tt.g tt.c cur d r x i l w h0 hh hth (by omega) htcm (by rw [hts, htz, Nat.mul_one]) (repB htr)).mono ?_
 rintro e w' ⟨rfl, rfl⟩
 have hbel : RowKit.Below tt.g w (w.drew.freeze ⟨tt.g, 0, none⟩ l.length) := Lib.below_freeze (RowKit.Below.drew (RowKit.Below.refl tt.g w)) (p := ⟨tt.g, 0, none⟩) (Nat.le_refl _) _
 have hoth : ∀ q, q ≠ tt.g → (w.drew.freeze ⟨tt.g, 0, none⟩ l.length).heap[q]? = w.heap[q]? := fun q hq => by
  unfold World.freeze
  split
  ·rfl
  ·show (w.drew.heap.modify tt.g _)[q]? = _
   rw [Array.getElem?_modify, if_neg (fun e => hq e.symm)]; rfl
 have hle : Hp.le ⟨upd h.H b none, upd h.T k none⟩ h := ⟨fun i => by
  by_cases e : i = b
  ·left; rw [e]; exact upd_same _ _ _
  ·right; exact upd_other _ _ e, fun i => by
  by_cases e : i = k
  ·left; rw [e]; exact upd_same _ _ _
  ·right; exact upd_other _ _ e⟩
 have hnO : ¬ Own G ⟨upd h.H b none, upd h.T k none⟩ tt.g := by
  rintro (⟨i, a, e⟩ | ⟨k2, t2, a, e, eg⟩)
  ·exact hs.tobj k i tt (by rw [hT]; simp) (hle.Hne a) htl e
  ·have := hs.tinj k2 k t2 tt (hle.Tne a) (by rw [hT]; simp) e htl eg
   subst this
   exact a (upd_same _ _ _)
 have hO : Own G h tt.g := .inr ⟨k, tt, by rw [hT]; simp, htl, rfl⟩
 refine ⟨_, rfl, .v (.string ⟨l.toArray⟩), _, G, ⟨rfl, rfl⟩, GLe.refl _, ?_, (hs.less hle).other hoth htf hnO, .v _ rfl⟩
 exact ⟨hbel.os, hbel.tape, hbel.output, hbel.size, fun q hlt hn => ⟨hoth q (fun e => hn (e ▸ hO)), fun o' => hn (hle.own o'), fun _ => rfl⟩⟩
open Go
set_option linter.unusedVariables false
set_option linter.unusedSimpArgs false
theorem g_itoa (n : Nat) (hn : n < 100) (h : Hp) : ACalls Tryz.prog 207 [.v (.int .i64 n)] h (fun r h' => r = .v (.string ⟨(Lib.decDigits n).toArray⟩) ∧ h' = h) := by
 refine acalls_mk (by kernel_rfl) fun G w vs hs hv ha => ?_
 have hr := ha 0 (by simp)
 have hvs : vs = #[vs.getD 0 undef] := by
  have hv1 : vs.size = 1 := hv
  apply Array.ext (by simpa using hv1)
  intro j hj hj'
  simp only [List.size_toArray, List.length_cons, List.length_nil] at hj'
  obtain rfl : j = 0 := by omega
  simp [Array.getD, hv1]
 rw [hvs]
 generalize vs.getD 0 undef = v at hr
 simp only [List.getElem_cons_zero] at hr
 cases hr
 refine (Tryz.strconv_Itoa_small n hn w).mono ?_
 rintro e w' ⟨rfl, rfl⟩
 exact ⟨_, rfl, .v (.string ⟨(Lib.decDigits n).toArray⟩), h, G, ⟨rfl, rfl⟩, GLe.refl _, Fr.refl _ _ _, hs, .v _ rfl⟩
open Nat renaming reduceAdd → nA, reduceSub → nB, reduceMul → nC, reduceLT → nD, reduceLeDiff → nE, reduceEqDiff → nF, reduceMod → nG, reduceDiv → nH, reducePow → nI
abbrev zPFE : List Nat := [0, 1, 2, 3, 4, 6, 7]
abbrev zPFP : List (Nat × List Nat × List Nat) := [(5, [], []), (8, [], [9, 10, 11, 12])]
abbrev zPGE : List Nat := [0, 1, 2, 3, 4, 6, 7, 10, 11, 13, 14]
abbrev zPGP : List (Nat × List Nat × List Nat) := [(5, [], []), (8, [], [9]), (12, [], []), (15, [], [16, 17, 18, 19, 20])]
abbrev zPHE : List Nat := [0, 1, 2, 3, 4, 5, 6, 7, 8, 9, 10, 11, 12, 13, 14, 15, 16]
abbrev zPHP : List (Nat × List Nat × List Nat) := []
abbrev zPIE : List Nat := [0, 1, 2, 3, 4, 5, 6, 7, 8, 9, 10, 11, 12, 13, 14, 15, 16, 17, 18, 19, 20, 21, 22, 23, 24, 25, 26]
abbrev zPIP : List (Nat × List Nat × List Nat) := []
abbrev zPJE : List Nat := [0, 1, 2, 3, 4, 5, 6, 7, 8, 9, 10, 11, 12, 13, 14, 15, 16, 17, 18, 19, 20, 21, 22, 23, 24, 25, 26, 27, 28, 29, 30, 31, 32, 33, 34, 35, 36]
abbrev zPJP : List (Nat × List Nat × List Nat) := []
abbrev zPKE : List Nat := [0, 1, 2, 3, 4, 5, 6, 7, 8, 9, 10, 11, 12]
abbrev zPKP : List (Nat × List Nat × List Nat) := []
abbrev zPLE : List Nat := [0, 1, 2, 8]
abbrev zPLP : List (Nat × List Nat × List Nat) := [(3, [1], [4, 5, 6]), (7, [], [9]), (10, [], [])]
attribute [go_sem] zPFE zPFP zPGE zPGP zPHE zPHP zPIE zPIP zPJE zPJP zPKE zPKP zPLE zPLP
set_option maxRecDepth 100000
set_option maxHeartbeats 8000000
theorem repL_v_inv {G : Gh} {l us : List Value} (h : RepL G (l.map AV.v) us) : us = l := by
 obtain ⟨h1, h2⟩ := h
 apply List.ext_getElem (by simpa using h1)
 intro j a b
 have h3 := (h2 j (by simpa using b) a).1
 simp only [List.getElem_map] at h3
 generalize us[j] = y at h3
 cases h3; rfl
theorem c_search (h : Hp) : ACalls Tryz.prog 201 [.row 6 [fC] none, .v (.string sN), .fn 202 []] h (fun r h' => r = .tup [.v (.int .i64 0), .v (.bool true)] ∧ h' = h) := by
 refine acalls_mk (by kernel_rfl) fun G w vs hs hv ha => ?_
 have hv3 : vs.size = 3 := hv
 have r0 := ha 0 (by simp)
 have r1 := ha 1 (by simp)
 have r2 := ha 2 (by simp)
 have hvs : vs = #[vs.getD 0 undef, vs.getD 1 undef, vs.getD 2 undef] := by
  apply Array.ext (by simpa using hv3)
  intro j hj hj'
  simp only [List.size_toArray, List.length_cons, List.length_nil] at hj'
  have : j = 0 ∨ j = 1 ∨ j = 2 := by omega
  rcases this with rfl | rfl | rfl <;> simp [Array.getD, hv3]
 rw [hvs]
 generalize vs.getD 0 undef = v0 at *
 generalize vs.getD 1 undef = v1 at *
 generalize vs.getD 2 undef = v2 at *
 simp only [List.getElem_cons_zero, List.getElem_cons_succ] at r0 r1 r2
 cases r1
 cases r2 with | fn _ _ cvs u hl hu hr =>
 obtain rfl : cvs = #[] := Array.eq_empty_of_size_eq_zero hl
 rcases Rep.row_inv r0 with ⟨a, _, e⟩ | ⟨g, o, c, us, rfl, hc, hz, hru, hu2⟩
 ·cases e
 ·have hus : us = fV := repL_v_inv (by simpa [fC] using hru)
  subst hus
  have hcell : ∀ j (hj : j < fV.length), w.cell? ⟨g, o + j, none⟩ = some fV[j] := fun j hj => hs.cell _ _ _ (hu2 j _ (List.getElem?_eq_getElem hj))
  refine (w_search g o c w (World.block_lt_of_cell? w _ (hcell 0 (by decide))) hcell).mono ?_
  rintro e w' ⟨rfl, hb⟩
  have hb' : ∀ b, b < w.heap.size → w'.heap[b]? = w.heap[b]? := fun b hb2 => hb.block b hb2
  refine ⟨_, rfl, _, h, G, ⟨rfl, rfl⟩, GLe.refl _, Fr.below (Fr.refl _ _ _) hb' hb.os hb.tape hb.output hb.size, hs.below hb', ?_⟩
  refine .tup _ _ (fun j => [Value.int .i64 0, Value.bool true].getD j undef) rfl (fun j hj => ?_) (fun j hj => ?_)
  ·have : j = 0 ∨ j = 1 := by simp at hj; omega
   rcases this with rfl | rfl <;> rfl
  ·have : j = 0 ∨ j = 1 := by simp at hj; omega
   rcases this with rfl | rfl <;> exact .v _ rfl
theorem c_valid0 (h : Hp) : ACalls Tryz.prog 168 [.v (.string ⟨#[]⟩)] h (fun r h' => r = .v (.bool true) ∧ h' = h) := by
 have z : ((⟨#[]⟩ : ByteArray).size : Int) = 0 := rfl
 refine gE Tryz.func168 rfl (by kernel_rfl) 168 rfl fun c => ?_
 (repeat (first | refine gO rfl ?_ | ((first | refine gM zM20 ?_ | (with_reducible refine wM ?_ ?_) | ((with_reducible refine xS ?_); refine uD 7 zM20 zPFE zPFP 169 rfl (by kernel_rfl) ?_) | ((with_reducible refine xS ?_); refine uD 9 zM20 zPGE zPGP 169 rfl (by kernel_rfl) ?_) | ((with_reducible refine xS ?_); refine uD 17 zM20 zPHE zPHP 169 rfl (by kernel_rfl) ?_) | ((with_reducible refine xS ?_); refine uD 21 zM20 zPIE zPIP 169 rfl (by kernel_rfl) ?_) | ((with_reducible refine xS ?_); refine uD 25 zM20 zPJE zPJP 169 rfl (by kernel_rfl) ?_)) <;> ((try with_reducible intro K1 hK1); simp only [go_sem, ↓reduceIte, reduceCtorEq, nA, nB, nC, nD, nE, nF, Int.reduceBEq, Int.reduceTMod, Int.reduceTDiv, Int.reduceMul, Int.reduceBNe, Int.reduceLT, Int.reduceLE, Int.reduceAdd, Int.reduceSub, Int.reduceNeg, decide_true, decide_false, Bool.true_and, Bool.false_and, Bool.and_true, Bool.and_false, Bool.or_false, Bool.or_true, Bool.true_or, Bool.false_or, Bool.not_true, Bool.not_false, true_implies, false_implies, true_and, and_true, Int.reduceToNat, z] <;> and_intros <;> first | (apply hK1; clear hK1 K1) | (intros; first | omega | decide) | skip)) | (refine awp_cond (t := _) rfl (fun hq => ?_) (fun hq => ?_) <;> first | (exact absurd hq (by decide)) | (cases hq; done) | (clear hq)) | (refine awp_un 8 ?_) | (with_reducible exact rfl) | (with_reducible exact trivial) | ((with_reducible show uside _); first | exact True.intro | exact rfl) | ((with_reducible show opS _ _); exact True.intro) | (refine ⟨AV.v (.bool true), rfl, hK1 _ ?_⟩; clear hK1 K1)))
 simp only [Tryz.results168, go_sem, ↓reduceIte, reduceCtorEq, nA, nB, nC, nD, nE, nF]
 exact ⟨_, _, Weak.refl _, Hp.le.refl _, rfl, rfl⟩
theorem fC_eq : fC = [.v (.string sN), .v (.int .i64 2), .v (.string ⟨#[]⟩), .v (.int .i64 5), .v (.bool false), .v (.slice none 0 0)] := rfl
theorem e00 : ((⟨#[]⟩ : ByteArray) == ⟨#[]⟩) = true := by decide
theorem c_idle (h : Hp) : ACalls Tryz.prog 167 [.agg fC] h (fun r h' => r = .v (.bool true) ∧ h' = h) := by
 rw [fC_eq]
 refine gE Tryz.func167 rfl (by kernel_rfl) 41 rfl fun c => ?_
 (repeat (first | refine gO rfl ?_ | (refine gR fun K1 hK1 => ?_; simp only [go_sem, ↓reduceIte, reduceCtorEq, nA, nB, nC, nD, nE, nF, Int.reduceBEq, Int.reduceTMod, Int.reduceTDiv, Int.reduceMul, Int.reduceBNe, Int.reduceLT, Int.reduceLE, Int.reduceAdd, Int.reduceSub, Int.reduceNeg, decide_true, decide_false, Bool.true_and, Bool.false_and, Bool.and_true, Bool.and_false, Bool.or_false, Bool.or_true, Bool.true_or, Bool.false_or, Bool.not_true, Bool.not_false, true_implies, false_implies, true_and, and_true, Int.reduceToNat, e00] <;> and_intros <;> first | (apply hK1; clear hK1 K1) | (intros; first | omega | decide) | skip) | (refine awp_cond (t := _) rfl (fun hq => ?_) (fun hq => ?_) <;> first | (exact absurd hq (by decide)) | (cases hq; done) | (clear hq)) | (refine awp_un 8 ?_) | (with_reducible exact rfl) | (with_reducible exact trivial) | ((with_reducible show uside _); first | exact True.intro | exact rfl) | ((with_reducible show opS _ _); exact True.intro) | (refine ⟨AV.v (.bool true), rfl, hK1 _ ?_⟩; clear hK1 K1)))
 simp only [Tryz.results167, go_sem, ↓reduceIte, reduceCtorEq, nA, nB, nC, nD, nE, nF]
 exact ⟨_, _, Weak.refl _, Hp.le.refl _, rfl, rfl⟩
theorem c_fieldFault (h : Hp) : ACalls Tryz.prog 140 [.agg fC, .v (.int .i64 0)] h (fun r h' => r = .v (.int .i64 0) ∧ h' = h) := by
 have h1 := fun h => a_outside 2 1 4 h
 have h2 := fun h => c_idle h
 have h3 := fun h => c_valid0 h
 have h4 := fun h => a_outside 5 (-1000000000) 1000000000 h
 have z : ((⟨#[]⟩ : ByteArray).size : Int) = 0 := rfl
 have z2 : ((#[] : Array UInt8).size : Int) = 0 := rfl
 rw [fC_eq] at *
 refine gE Tryz.func140 rfl (by kernel_rfl) 59 rfl fun c => ?_
 (repeat (first | refine gO rfl ?_ | (refine gR fun K1 hK1 => ?_; simp only [go_sem, ↓reduceIte, reduceCtorEq, nA, nB, nC, nD, nE, nF, Int.reduceBEq, Int.reduceTMod, Int.reduceTDiv, Int.reduceMul, Int.reduceBNe, Int.reduceLT, Int.reduceLE, Int.reduceAdd, Int.reduceSub, Int.reduceNeg, decide_true, decide_false, Bool.true_and, Bool.false_and, Bool.and_true, Bool.and_false, Bool.or_false, Bool.or_true, Bool.true_or, Bool.false_or, Bool.not_true, Bool.not_false, true_implies, false_implies, true_and, and_true, Int.reduceToNat, z, z2] <;> and_intros <;> first | (apply hK1; clear hK1 K1) | (intros; first | omega | decide) | skip) | (refine awp_cond (t := _) rfl (fun hq => ?_) (fun hq => ?_) <;> first | (exact absurd hq (by decide)) | (cases hq; done) | (clear hq)) | (refine awp_un 8 ?_) | (with_reducible exact rfl) | (with_reducible exact trivial) | ((with_reducible show uside _); first | exact True.intro | exact rfl) | ((with_reducible show opS _ _); exact True.intro) | (refine ⟨AV.v (.bool true), rfl, hK1 _ ?_⟩; clear hK1 K1) | (refine (h1 _).mono ?_; rintro _ hz ⟨rfl, hh⟩; (first | (refine hK1 _ ?_) | (refine ⟨rfl, hK1 _ ?_⟩)); clear hK1 K1; rw [hh]; clear hh hz) | (refine (h2 _).mono ?_; rintro _ hz ⟨rfl, hh⟩; (first | (refine hK1 _ ?_) | (refine ⟨rfl, hK1 _ ?_⟩)); clear hK1 K1; rw [hh]; clear hh hz) | (refine (h3 _).mono ?_; rintro _ hz ⟨rfl, hh⟩; (first | (refine hK1 _ ?_) | (refine ⟨rfl, hK1 _ ?_⟩)); clear hK1 K1; rw [hh]; clear hh hz) | (refine (h4 _).mono ?_; rintro _ hz ⟨rfl, hh⟩; (first | (refine hK1 _ ?_) | (refine ⟨rfl, hK1 _ ?_⟩)); clear hK1 K1; rw [hh]; clear hh hz)))
 simp only [Tryz.results140, go_sem, ↓reduceIte, reduceCtorEq, nA, nB, nC, nD, nE, nF]
 exact ⟨_, _, Weak.refl _, Hp.le.refl _, rfl, rfl⟩
theorem c_dataFault (h : Hp) : ACalls Tryz.prog 113 [.row 6 [fC] none, .v (.int .i64 0)] h (fun r h' => r = .v (.int .i64 0) ∧ h' = h) := by
 have h1 := fun h => c_isName h
 have h2 := fun h => c_fieldFault h
 rw [fC_eq] at *
 refine gE Tryz.func113 rfl (by kernel_rfl) 40 rfl fun c => ?_
 (repeat (first | refine gO rfl ?_ | ((first | refine gM zM20 ?_ | (with_reducible refine wM ?_ ?_) | ((with_reducible refine xS ?_); refine uD 8 zM20 zPKE zPKP 42 rfl (by kernel_rfl) ?_)) <;> ((try with_reducible intro K1 hK1); simp only [go_sem, ↓reduceIte, reduceCtorEq, nA, nB, nC, nD, nE, nF, Int.reduceBEq, Int.reduceTMod, Int.reduceTDiv, Int.reduceMul, Int.reduceBNe, Int.reduceLT, Int.reduceLE, Int.reduceAdd, Int.reduceSub, Int.reduceNeg, decide_true, decide_false, Bool.true_and, Bool.false_and, Bool.and_true, Bool.and_false, Bool.or_false, Bool.or_true, Bool.true_or, Bool.false_or, Bool.not_true, Bool.not_false, true_implies, false_implies, true_and, and_true, Int.reduceToNat] <;> and_intros <;> first | (apply hK1; clear hK1 K1) | (intros; first | omega | decide) | skip)) | (refine awp_cond (t := _) rfl (fun hq => ?_) (fun hq => ?_) <;> first | (exact absurd hq (by decide)) | (cases hq; done) | (clear hq)) | (refine awp_un 8 ?_) | (with_reducible exact rfl) | (with_reducible exact trivial) | ((with_reducible show uside _); first | exact True.intro | exact rfl) | ((with_reducible show opS _ _); exact True.intro) | (refine ⟨AV.v (.bool true), rfl, hK1 _ ?_⟩; clear hK1 K1) | (refine (h1 _).mono ?_; rintro _ hz ⟨rfl, hh⟩; (first | (refine hK1 _ ?_) | (refine ⟨rfl, hK1 _ ?_⟩)); clear hK1 K1; rw [hh]; clear hh hz) | (refine (h2 _).mono ?_; rintro _ hz ⟨rfl, hh⟩; (first | (refine hK1 _ ?_) | (refine ⟨rfl, hK1 _ ?_⟩)); clear hK1 K1; rw [hh]; clear hh hz)))
 simp only [Tryz.results113, go_sem, ↓reduceIte, reduceCtorEq, nA, nB, nC, nD, nE, nF]
 exact ⟨_, _, Weak.refl _, Hp.le.refl _, rfl, rfl⟩
theorem c_checkData (h : Hp) : ACalls Tryz.prog 83 [.row 6 [fC] none] h (fun r h' => r = .v (.int .i64 0) ∧ h' = h) := by
 have h2 := fun h => c_dataFault h
 rw [fC_eq] at *
 refine gE Tryz.func83 rfl (by kernel_rfl) 4 rfl fun c => ?_
 (repeat (first | refine gO rfl ?_ | (refine gR fun K1 hK1 => ?_; simp only [go_sem, ↓reduceIte, reduceCtorEq, nA, nB, nC, nD, nE, nF, Int.reduceBEq, Int.reduceTMod, Int.reduceTDiv, Int.reduceMul, Int.reduceBNe, Int.reduceLT, Int.reduceLE, Int.reduceAdd, Int.reduceSub, Int.reduceNeg, decide_true, decide_false, Bool.true_and, Bool.false_and, Bool.and_true, Bool.and_false, Bool.or_false, Bool.or_true, Bool.true_or, Bool.false_or, Bool.not_true, Bool.not_false, true_implies, false_implies, true_and, and_true, Int.reduceToNat] <;> and_intros <;> first | (apply hK1; clear hK1 K1) | (intros; first | omega | decide) | skip) | (refine awp_cond (t := _) rfl (fun hq => ?_) (fun hq => ?_) <;> first | (exact absurd hq (by decide)) | (cases hq; done) | (clear hq)) | (refine awp_un 8 ?_) | (with_reducible exact rfl) | (with_reducible exact trivial) | ((with_reducible show uside _); first | exact True.intro | exact rfl) | ((with_reducible show opS _ _); exact True.intro) | (refine ⟨AV.v (.bool true), rfl, hK1 _ ?_⟩; clear hK1 K1) | (refine (h2 _).mono ?_; rintro _ hz ⟨rfl, hh⟩; (first | (refine hK1 _ ?_) | (refine ⟨rfl, hK1 _ ?_⟩)); clear hK1 K1; rw [hh]; clear hh hz)))
 simp only [Tryz.results83, go_sem, ↓reduceIte, reduceCtorEq, nA, nB, nC, nD, nE, nF]
 exact ⟨_, _, Weak.refl _, Hp.le.refl _, rfl, rfl⟩
theorem c_fieldAt (h : Hp) : ACalls Tryz.prog 171 [.row 6 [fC] none, .v (.string sN)] h (fun r h' => r = .tup [.agg fC, .v (.bool true)] ∧ h' = h) := by
 have h2 := fun h => c_search h
 rw [fC_eq] at *
 refine gE Tryz.func171 rfl (by kernel_rfl) 19 rfl fun c => ?_
 (repeat (first | refine gO rfl ?_ | (refine gM zM21 fun K1 hK1 => ?_; simp only [go_sem, ↓reduceIte, reduceCtorEq, nA, nB, nC, nD, nE, nF, Int.reduceBEq, Int.reduceTMod, Int.reduceTDiv, Int.reduceMul, Int.reduceBNe, Int.reduceLT, Int.reduceLE, Int.reduceAdd, Int.reduceSub, Int.reduceNeg, decide_true, decide_false, Bool.true_and, Bool.false_and, Bool.and_true, Bool.and_false, Bool.or_false, Bool.or_true, Bool.true_or, Bool.false_or, Bool.not_true, Bool.not_false, true_implies, false_implies, true_and, and_true, Int.reduceToNat] <;> and_intros <;> first | (apply hK1; clear hK1 K1) | (intros; first | omega | decide) | skip) | (refine awp_cond (t := _) rfl (fun hq => ?_) (fun hq => ?_) <;> first | (exact absurd hq (by decide)) | (cases hq; done) | (clear hq)) | (refine awp_un 8 ?_) | (with_reducible exact rfl) | (with_reducible exact trivial) | ((with_reducible show uside _); first | exact True.intro | exact rfl) | ((with_reducible show opS _ _); exact True.intro) | (refine ⟨AV.v (.bool true), rfl, hK1 _ ?_⟩; clear hK1 K1) | (refine (h2 _).mono ?_; rintro _ hz ⟨rfl, hh⟩; (first | (refine hK1 _ ?_) | (refine ⟨rfl, hK1 _ ?_⟩)); clear hK1 K1; rw [hh]; clear hh hz)))
 intro p hp
 refine hK1 _ ?_; clear hK1 K1
 (repeat (first | refine gO rfl ?_ | (refine gM zM21 fun K1 hK1 => ?_; simp only [go_sem, ↓reduceIte, reduceCtorEq, nA, nB, nC, nD, nE, nF, Int.reduceBEq, Int.reduceTMod, Int.reduceTDiv, Int.reduceMul, Int.reduceBNe, Int.reduceLT, Int.reduceLE, Int.reduceAdd, Int.reduceSub, Int.reduceNeg, decide_true, decide_false, Bool.true_and, Bool.false_and, Bool.and_true, Bool.and_false, Bool.or_false, Bool.or_true, Bool.true_or, Bool.false_or, Bool.not_true, Bool.not_false, true_implies, false_implies, true_and, and_true, Int.reduceToNat, upd_same] <;> and_intros <;> first | (apply hK1; clear hK1 K1) | (intros; first | omega | decide) | skip) | (refine awp_cond (t := _) rfl (fun hq => ?_) (fun hq => ?_) <;> first | (exact absurd hq (by decide)) | (cases hq; done) | (clear hq)) | (refine awp_un 8 ?_) | (with_reducible exact rfl) | (with_reducible exact trivial) | ((with_reducible show uside _); first | exact True.intro | exact rfl) | ((with_reducible show opS _ _); exact True.intro) | (refine ⟨AV.v (.bool true), rfl, hK1 _ ?_⟩; clear hK1 K1) | (refine (h2 _).mono ?_; rintro _ hz ⟨rfl, hh⟩; (first | (refine hK1 _ ?_) | (refine ⟨rfl, hK1 _ ?_⟩)); clear hK1 K1; rw [hh]; clear hh hz)))
 simp only [Tryz.results171, go_sem, ↓reduceIte, reduceCtorEq, nA, nB, nC, nD, nE, nF]
 exact ⟨_, h, Weak.refl _, hle_obj hp, rfl, rfl⟩
theorem c_numberText (h : Hp) : ACalls Tryz.prog 176 [.v (.int .i64 5)] h (fun r h' => r = .v (.string ⟨#[53]⟩) ∧ h' = h) := by
 have h2 := fun h => g_itoa 5 (by decide) h
 rw [show (Lib.decDigits 5).toArray = #[53] by unfold Lib.decDigits; rfl] at h2
 refine gE Tryz.func176 rfl (by kernel_rfl) 4 rfl fun c => ?_
 (repeat (first | refine gO rfl ?_ | (refine gR fun K1 hK1 => ?_; simp only [go_sem, ↓reduceIte, reduceCtorEq, nA, nB, nC, nD, nE, nF, Int.reduceBEq, Int.reduceTMod, Int.reduceTDiv, Int.reduceMul, Int.reduceBNe, Int.reduceLT, Int.reduceLE, Int.reduceAdd, Int.reduceSub, Int.reduceNeg, decide_true, decide_false, Bool.true_and, Bool.false_and, Bool.and_true, Bool.and_false, Bool.or_false, Bool.or_true, Bool.true_or, Bool.false_or, Bool.not_true, Bool.not_false, true_implies, false_implies, true_and, and_true, Int.reduceToNat] <;> and_intros <;> first | (apply hK1; clear hK1 K1) | (intros; first | omega | decide) | skip) | (refine awp_cond (t := _) rfl (fun hq => ?_) (fun hq => ?_) <;> first | (exact absurd hq (by decide)) | (cases hq; done) | (clear hq)) | (refine awp_un 8 ?_) | (with_reducible exact rfl) | (with_reducible exact trivial) | ((with_reducible show uside _); first | exact True.intro | exact rfl) | ((with_reducible show opS _ _); exact True.intro) | (refine ⟨AV.v (.bool true), rfl, hK1 _ ?_⟩; clear hK1 K1) | (refine (h2 _).mono ?_; rintro _ hz ⟨rfl, hh⟩; (first | (refine hK1 _ ?_) | (refine ⟨rfl, hK1 _ ?_⟩)); clear hK1 K1; rw [hh]; clear hh hz)))
 simp only [Tryz.results176, go_sem, ↓reduceIte, reduceCtorEq, nA, nB, nC, nD, nE, nF]
 exact ⟨_, _, Weak.refl _, Hp.le.refl _, rfl, rfl⟩
theorem c_said (h : Hp) : ACalls Tryz.prog 144 [.agg fC] h (fun r h' => r = .v (.string ⟨#[53]⟩) ∧ h' = h) := by
 have h2 := fun h => c_numberText h
 rw [fC_eq] at *
 refine gE Tryz.func144 rfl (by kernel_rfl) 16 rfl fun c => ?_
 (repeat (first | refine gO rfl ?_ | (refine gR fun K1 hK1 => ?_; simp only [go_sem, ↓reduceIte, reduceCtorEq, nA, nB, nC, nD, nE, nF, Int.reduceBEq, Int.reduceTMod, Int.reduceTDiv, Int.reduceMul, Int.reduceBNe, Int.reduceLT, Int.reduceLE, Int.reduceAdd, Int.reduceSub, Int.reduceNeg, decide_true, decide_false, Bool.true_and, Bool.false_and, Bool.and_true, Bool.and_false, Bool.or_false, Bool.or_true, Bool.true_or, Bool.false_or, Bool.not_true, Bool.not_false, true_implies, false_implies, true_and, and_true, Int.reduceToNat] <;> and_intros <;> first | (apply hK1; clear hK1 K1) | (intros; first | omega | decide) | skip) | (refine awp_cond (t := _) rfl (fun hq => ?_) (fun hq => ?_) <;> first | (exact absurd hq (by decide)) | (cases hq; done) | (clear hq)) | (refine awp_un 8 ?_) | (with_reducible exact rfl) | (with_reducible exact trivial) | ((with_reducible show uside _); first | exact True.intro | exact rfl) | ((with_reducible show opS _ _); exact True.intro) | (refine ⟨AV.v (.bool true), rfl, hK1 _ ?_⟩; clear hK1 K1) | (refine (h2 _).mono ?_; rintro _ hz ⟨rfl, hh⟩; (first | (refine hK1 _ ?_) | (refine ⟨rfl, hK1 _ ?_⟩)); clear hK1 K1; rw [hh]; clear hh hz)))
 simp only [Tryz.results144, go_sem, ↓reduceIte, reduceCtorEq, nA, nB, nC, nD, nE, nF]
 exact ⟨_, _, Weak.refl _, Hp.le.refl _, rfl, rfl⟩
theorem c_filtered (s : ByteArray) (h : Hp) : ACalls Tryz.prog 143 [.v (.string s), .v (.slice none 0 0)] h (fun r h' => r = .v (.string s) ∧ h' = h) := by
 refine gE Tryz.func143 rfl (by kernel_rfl) 58 rfl fun c => ?_
 (repeat (first | refine gO rfl ?_ | ((first | refine gM zM20 ?_ | (with_reducible refine wM ?_ ?_) | ((with_reducible refine xR ?_); refine uE 5 zM20 zPLE zPLP 60 rfl (by kernel_rfl) ?_)) <;> ((try with_reducible intro K1 hK1); simp only [go_sem, ↓reduceIte, reduceCtorEq, nA, nB, nC, nD, nE, nF, Int.reduceBEq, Int.reduceTMod, Int.reduceTDiv, Int.reduceMul, Int.reduceBNe, Int.reduceLT, Int.reduceLE, Int.reduceAdd, Int.reduceSub, Int.reduceNeg, decide_true, decide_false, Bool.true_and, Bool.false_and, Bool.and_true, Bool.and_false, Bool.or_false, Bool.or_true, Bool.true_or, Bool.false_or, Bool.not_true, Bool.not_false, true_implies, false_implies, true_and, and_true, Int.reduceToNat] <;> and_intros <;> first | (apply hK1; clear hK1 K1) | (intros; first | omega | decide) | skip)) | (refine awp_cond (t := _) rfl (fun hq => ?_) (fun hq => ?_) <;> first | (exact absurd hq (by decide)) | (cases hq; done) | (clear hq)) | (refine awp_un 8 ?_) | (with_reducible exact rfl) | (with_reducible exact trivial) | ((with_reducible show uside _); first | exact True.intro | exact rfl) | ((with_reducible show opS _ _); exact True.intro) | (refine ⟨AV.v (.bool true), rfl, hK1 _ ?_⟩; clear hK1 K1)))
 simp only [Tryz.results143, go_sem, ↓reduceIte, reduceCtorEq, nA, nB, nC, nD, nE, nF]
 exact ⟨_, _, Weak.refl _, Hp.le.refl _, rfl, rfl⟩
abbrev zPME : List Nat := [0, 1, 3, 4]
abbrev zPMP : List (Nat × List Nat × List Nat) := [(2, [4], []), (5, [], []), (6, [], [7])]
abbrev zPNE : List Nat := [0, 1, 2, 3, 4, 5, 6, 7, 8, 9]
abbrev zPNP : List (Nat × List Nat × List Nat) := [(10, [], [11, 12]), (13, [], [])]
abbrev zPOE : List Nat := [0, 1, 2, 3, 4, 5, 6, 7, 8, 9, 10, 11, 12, 13]
abbrev zPOP : List (Nat × List Nat × List Nat) := [(14, [], [])]
attribute [go_sem] zPME zPMP zPNE zPNP zPOE zPOP
def s5 : ByteArray := ⟨#[53]⟩
def bdO (k : Nat) : AO := .obj 132 [.row 6 [fC] none, .v (.slice none 0 0), .v (.pointer none), .arr 1 k 0, .v (.int .i64 0)]
def bdP (b k : Nat) : AO := .obj 132 [.row 6 [fC] none, .v (.slice none 0 0), .ptr b 2, .arr 1 k 1, .v (.int .i64 0)]
def h5 (h : Hp) (b k : Nat) : Hp := ⟨upd h.H b (some (bdP b k)), upd h.T k (some (.buf 5 (rowB [53])))⟩
theorem c_field (b k : Nat) (h : Hp) (hb : h.H b = some (bdO k)) : ACalls Tryz.prog 142 [.ptr b 0, .agg [.v (.string ⟨#[]⟩), .v (.string sN)]] h (fun r h' => r = .tup [.agg fC, .v (.int .i64 0)] ∧ h' = h) := by
 have h1 := fun h => c_fieldAt h
 have e1 : (!((⟨#[]⟩ : ByteArray) == ⟨#[]⟩)) = false := by decide
 unfold bdO at hb
 rw [fC_eq] at *
 refine gE Tryz.func142 rfl (by kernel_rfl) 41 rfl fun c => ?_
 (repeat (first | refine gO rfl ?_ | (refine gM zM22 fun K1 hK1 => ?_; simp only [go_sem, ↓reduceIte, reduceCtorEq, nA, nB, nC, nD, nE, nF, Int.reduceBEq, Int.reduceTMod, Int.reduceTDiv, Int.reduceMul, Int.reduceBNe, Int.reduceLT, Int.reduceLE, Int.reduceAdd, Int.reduceSub, Int.reduceNeg, decide_true, decide_false, Bool.true_and, Bool.false_and, Bool.and_true, Bool.and_false, Bool.or_false, Bool.or_true, Bool.true_or, Bool.false_or, Bool.not_true, Bool.not_false, true_implies, false_implies, true_and, and_true, Int.reduceToNat] <;> and_intros <;> first | (apply hK1; clear hK1 K1) | (intros; first | omega | decide) | skip) | (refine awp_cond (t := _) rfl (fun hq => ?_) (fun hq => ?_) <;> first | (exact absurd hq (by decide)) | (cases hq; done) | (clear hq)) | (refine awp_un 8 ?_) | (with_reducible exact rfl) | (with_reducible exact trivial) | ((with_reducible show uside _); first | exact True.intro | exact rfl) | ((with_reducible show opS _ _); exact True.intro) | (refine ⟨AV.v (.bool true), rfl, hK1 _ ?_⟩; clear hK1 K1)))
 intro p hp
 refine hK1 _ ?_; clear hK1 K1
 have hpb : b ≠ p := by rintro rfl; rw [hp] at hb; cases hb
 have hb2 : ∀ o, upd h.H p o b = h.H b := fun o => upd_other _ _ hpb
 rw [hb] at hb2
 (repeat (first | refine gO rfl ?_ | (refine gM zM22 fun K1 hK1 => ?_; simp only [go_sem, ↓reduceIte, reduceCtorEq, nA, nB, nC, nD, nE, nF, Int.reduceBEq, Int.reduceTMod, Int.reduceTDiv, Int.reduceMul, Int.reduceBNe, Int.reduceLT, Int.reduceLE, Int.reduceAdd, Int.reduceSub, Int.reduceNeg, decide_true, decide_false, Bool.true_and, Bool.false_and, Bool.and_true, Bool.and_false, Bool.or_false, Bool.or_true, Bool.true_or, Bool.false_or, Bool.not_true, Bool.not_false, true_implies, false_implies, true_and, and_true, Int.reduceToNat, hb2, e1, e00, upd_same] <;> and_intros <;> first | (apply hK1; clear hK1 K1) | (intros; first | omega | decide) | skip) | (refine awp_cond (t := _) rfl (fun hq => ?_) (fun hq => ?_) <;> first | (exact absurd hq (by decide)) | (cases hq; done) | (clear hq)) | (refine awp_un 8 ?_) | (with_reducible exact rfl) | (with_reducible exact trivial) | ((with_reducible show uside _); first | exact True.intro | exact rfl) | ((with_reducible show opS _ _); exact True.intro) | (refine ⟨AV.v (.bool true), rfl, hK1 _ ?_⟩; clear hK1 K1) | (refine (h1 _).mono ?_; rintro _ hz ⟨rfl, hh⟩; (first | (refine hK1 _ ?_) | (refine ⟨rfl, hK1 _ ?_⟩)); clear hK1 K1; rw [hh]; clear hh hz)))
 simp only [Tryz.results142, go_sem, ↓reduceIte, reduceCtorEq, nA, nB, nC, nD, nE, nF]
 exact ⟨_, h, Weak.refl _, hle_obj hp, rfl, rfl⟩
theorem c_put (b k : Nat) (h : Hp) (hb : h.H b = some (bdO k)) (hT : h.T k = some (.buf 5 (rowB []))) : ACalls Tryz.prog 141 [.ptr b 0, .v (.string s5)] h (fun r h' => r = .v (.int .i64 0) ∧ h' = h5 h b k) := by
 have h1 : ACalls Tryz.prog 169 [.ptr b 2] h (fun r h' => r = .v (.int .i64 0) ∧ h' = h) := by
  unfold bdO at hb
  refine gE Tryz.func169 rfl (by kernel_rfl) 7 rfl fun c => ?_
  (repeat (first | refine gO rfl ?_ | (refine gR fun K1 hK1 => ?_; simp only [go_sem, ↓reduceIte, reduceCtorEq, nA, nB, nC, nD, nE, nF, Int.reduceBEq, Int.reduceTMod, Int.reduceTDiv, Int.reduceMul, Int.reduceBNe, Int.reduceLT, Int.reduceLE, Int.reduceAdd, Int.reduceSub, Int.reduceNeg, decide_true, decide_false, Bool.true_and, Bool.false_and, Bool.and_true, Bool.and_false, Bool.or_false, Bool.or_true, Bool.true_or, Bool.false_or, Bool.not_true, Bool.not_false, true_implies, false_implies, true_and, and_true, Int.reduceToNat, hb] <;> and_intros <;> first | (apply hK1; clear hK1 K1) | (intros; first | omega | decide) | skip) | (refine awp_cond (t := _) rfl (fun hq => ?_) (fun hq => ?_) <;> first | (exact absurd hq (by decide)) | (cases hq; done) | (clear hq)) | (refine awp_un 8 ?_) | (with_reducible exact rfl) | (with_reducible exact trivial) | ((with_reducible show uside _); first | exact True.intro | exact rfl) | ((with_reducible show opS _ _); exact True.intro) | (refine ⟨AV.v (.bool true), rfl, hK1 _ ?_⟩; clear hK1 K1)))
  simp only [Tryz.results169, go_sem, ↓reduceIte, reduceCtorEq, nA, nB, nC, nD, nE, nF]
  exact ⟨_, _, Weak.refl _, Hp.le.refl _, rfl, rfl⟩
 have h2 := g_writeAt b k _ _ _ s5 h hb hT (by decide)
 have z : (s5.size : Int) = 1 := rfl
 refine gE Tryz.func141 rfl (by kernel_rfl) 16 rfl fun c => ?_
 (repeat (first | refine gO rfl ?_ | (refine gR fun K1 hK1 => ?_; simp only [go_sem, ↓reduceIte, reduceCtorEq, nA, nB, nC, nD, nE, nF, Int.reduceBEq, Int.reduceTMod, Int.reduceTDiv, Int.reduceMul, Int.reduceBNe, Int.reduceLT, Int.reduceLE, Int.reduceAdd, Int.reduceSub, Int.reduceNeg, decide_true, decide_false, Bool.true_and, Bool.false_and, Bool.and_true, Bool.and_false, Bool.or_false, Bool.or_true, Bool.true_or, Bool.false_or, Bool.not_true, Bool.not_false, true_implies, false_implies, true_and, and_true, Int.reduceToNat, z] <;> and_intros <;> first | (apply hK1; clear hK1 K1) | (intros; first | omega | decide) | skip) | (refine awp_cond (t := _) rfl (fun hq => ?_) (fun hq => ?_) <;> first | (exact absurd hq (by decide)) | (cases hq; done) | (clear hq)) | (refine awp_un 8 ?_) | (with_reducible exact rfl) | (with_reducible exact trivial) | ((with_reducible show uside _); first | exact True.intro | exact rfl) | ((with_reducible show opS _ _); exact True.intro) | (refine ⟨AV.v (.bool true), rfl, hK1 _ ?_⟩; clear hK1 K1) | (refine (h1).mono ?_; rintro _ hz ⟨rfl, hh⟩; (first | (refine hK1 _ ?_) | (refine ⟨rfl, hK1 _ ?_⟩)); clear hK1 K1; rw [hh]; clear hh hz) | (refine (h2).mono ?_; rintro _ hz ⟨rfl, hh⟩; (first | (refine hK1 _ ?_) | (refine ⟨rfl, hK1 _ ?_⟩)); clear hK1 K1; rw [hh]; clear hh hz)))
 simp only [Tryz.results141, go_sem, ↓reduceIte, reduceCtorEq, nA, nB, nC, nD, nE, nF]
 exact ⟨_, _, Weak.refl _, Hp.le.refl _, rfl, rfl⟩
theorem c_node (b k : Nat) (h : Hp) (hb : h.H b = some (bdO k)) (hT : h.T k = some (.buf 5 (rowB []))) : ACalls Tryz.prog 114 [.ptr b 0, .agg ndN] h (fun r h' => r = .v (.int .i64 0) ∧ h' = h5 h b k) := by
 have h1 := c_field b k h hb
 have h2 := fun h => c_said h
 have h3 := fun h => c_filtered s5 h
 have h4 := c_put b k h hb hT
 rw [fC_eq] at h1 h2
 unfold s5 at h3 h4
 unfold ndN ndCp vS vI vB nl s0
 refine gE Tryz.func114 rfl (by kernel_rfl) 130 rfl fun c => ?_
 (repeat (first | refine gO rfl ?_ | ((first | refine gM zM23 ?_ | (with_reducible refine wM ?_ ?_) | ((with_reducible refine xS ?_); refine uD 10 zM23 zPME zPMP 132 rfl (by kernel_rfl) ?_) | ((with_reducible refine xS ?_); refine uD 29 zM23 zPNE zPNP 132 rfl (by kernel_rfl) ?_) | ((with_reducible refine xR ?_); refine uE 33 zM23 zPOE zPOP 132 rfl (by kernel_rfl) ?_)) <;> ((try with_reducible intro K1 hK1); simp only [go_sem, ↓reduceIte, reduceCtorEq, nA, nB, nC, nD, nE, nF, Int.reduceBEq, Int.reduceTMod, Int.reduceTDiv, Int.reduceMul, Int.reduceBNe, Int.reduceLT, Int.reduceLE, Int.reduceAdd, Int.reduceSub, Int.reduceNeg, decide_true, decide_false, Bool.true_and, Bool.false_and, Bool.and_true, Bool.and_false, Bool.or_false, Bool.or_true, Bool.true_or, Bool.false_or, Bool.not_true, Bool.not_false, true_implies, false_implies, true_and, and_true, Int.reduceToNat] <;> and_intros <;> first | (apply hK1; clear hK1 K1) | (intros; first | omega | decide) | skip)) | (refine awp_cond (t := _) rfl (fun hq => ?_) (fun hq => ?_) <;> first | (exact absurd hq (by decide)) | (cases hq; done) | (clear hq)) | (refine awp_un 8 ?_) | (with_reducible exact rfl) | (with_reducible exact trivial) | ((with_reducible show uside _); first | exact True.intro | exact rfl) | ((with_reducible show opS _ _); exact True.intro) | (refine ⟨AV.v (.bool true), rfl, hK1 _ ?_⟩; clear hK1 K1) | (refine (h1).mono ?_; rintro _ hz ⟨rfl, hh⟩; (first | (refine hK1 _ ?_) | (refine ⟨rfl, hK1 _ ?_⟩)); clear hK1 K1; rw [hh]; clear hh hz) | (refine (h2 _).mono ?_; rintro _ hz ⟨rfl, hh⟩; (first | (refine hK1 _ ?_) | (refine ⟨rfl, hK1 _ ?_⟩)); clear hK1 K1; rw [hh]; clear hh hz) | (refine (h3 _).mono ?_; rintro _ hz ⟨rfl, hh⟩; (first | (refine hK1 _ ?_) | (refine ⟨rfl, hK1 _ ?_⟩)); clear hK1 K1; rw [hh]; clear hh hz) | (refine (h4).mono ?_; rintro _ hz ⟨rfl, hh⟩; (first | (refine hK1 _ ?_) | (refine ⟨rfl, hK1 _ ?_⟩)); clear hK1 K1; rw [hh]; clear hh hz)))
 simp only [Tryz.results114, go_sem, ↓reduceIte, reduceCtorEq, nA, nB, nC, nD, nE, nF]
 exact ⟨_, _, Weak.refl _, Hp.le.refl _, rfl, rfl⟩
theorem c_nodes (b k : Nat) (h : Hp) (hb : h.H b = some (bdO k)) (hT : h.T k = some (.buf 5 (rowB []))) : ACalls Tryz.prog 84 [.ptr b 0, .row 19 [ndN] none] h (fun r h' => r = .v (.int .i64 0) ∧ h' = h5 h b k) := by
 have h1 := c_node b k h hb hT
 unfold ndN ndCp vS vI vB nl s0 at *
 refine gE Tryz.func84 rfl (by kernel_rfl) 19 rfl fun c => ?_
 (repeat (first | refine gO rfl ?_ | (refine gM zM20 fun K1 hK1 => ?_; simp only [go_sem, ↓reduceIte, reduceCtorEq, nA, nB, nC, nD, nE, nF, Int.reduceBEq, Int.reduceTMod, Int.reduceTDiv, Int.reduceMul, Int.reduceBNe, Int.reduceLT, Int.reduceLE, Int.reduceAdd, Int.reduceSub, Int.reduceNeg, decide_true, decide_false, Bool.true_and, Bool.false_and, Bool.and_true, Bool.and_false, Bool.or_false, Bool.or_true, Bool.true_or, Bool.false_or, Bool.not_true, Bool.not_false, true_implies, false_implies, true_and, and_true, Int.reduceToNat] <;> and_intros <;> first | (apply hK1; clear hK1 K1) | (intros; first | omega | decide) | skip) | (refine awp_cond (t := _) rfl (fun hq => ?_) (fun hq => ?_) <;> first | (exact absurd hq (by decide)) | (cases hq; done) | (clear hq)) | (refine awp_un 8 ?_) | (with_reducible exact rfl) | (with_reducible exact trivial) | ((with_reducible show uside _); first | exact True.intro | exact rfl) | ((with_reducible show opS _ _); exact True.intro) | (refine ⟨AV.v (.bool true), rfl, hK1 _ ?_⟩; clear hK1 K1) | (refine (h1).mono ?_; rintro _ hz ⟨rfl, hh⟩; (first | (refine hK1 _ ?_) | (refine ⟨rfl, hK1 _ ?_⟩)); clear hK1 K1; rw [hh]; clear hh hz)))
 simp only [Tryz.results84, go_sem, ↓reduceIte, reduceCtorEq, nA, nB, nC, nD, nE, nF]
 exact ⟨_, _, Weak.refl _, Hp.le.refl _, rfl, rfl⟩
section
variable {P : Program} {c : Cx} {Q : Exit → St → Prop}
def OpsL (P : Program) (c : Cx) (Q : Exit → St → Prop) : List Oper → St → Prop
 | [], s => Q .normal s
 | o :: r, s => o.guard = none ∧ Aop P c o s (OpsL P c Q r)
theorem awp_opsL {id : Nat} {ops : Array Oper} {s : St} (h : OpsL P c Q ops.toList s) : Awp P c (.region id ops false) Q s := by
 have hg : ∀ (l : List Oper) (s : St), OpsL P c Q l s → ∀ a w, In c s a w → wpList P ops (fun e a' w' => ∃ s', Q e s' ∧ In c s' a' w') l a w := by
  intro l
  induction l with
  | nil => intro s h a w hi; exact ⟨s, h, hi⟩
  | cons o r ih =>
   intro s h a w hi
   have hw : Region.wanted o (yielded ops a.tmps) = true := by simp [Region.wanted, h.1]
   unfold wpList
   rw [if_pos hw]
   exact .inl (h.2 a w hi _ _ fun s' a' w' hs hi' => ih s' hs a' w' hi')
 intro a w hi
 exact wp_region_list (hg _ s h a w hi)
end
theorem g_bind1 (h : Hp) : ACalls Tryz.prog 55 [.v (.string sT), .row 6 [fC] none] h (fun r h' => r = .tup [.v (.string s5), .v (.int .i64 0)]) := by
 have h1 := fun h => c_parse h
 have h2 := fun h => c_checkData h
 have h3 := fun b k h => c_nodes b k h
 unfold h5 bdO bdP at h3
 have hR : rowB [] = [] := rfl
 rw [hR] at h3
 generalize hfc : fC = cs at *
 generalize hnn : ([ndN] : List (List AV)) = nn at *
 refine gE Tryz.func55 rfl (by kernel_rfl) 37 rfl fun c => ?_
 (repeat (first | refine gO rfl ?_ | (refine gM zM24 fun K1 hK1 => ?_; simp only [go_sem, ↓reduceIte, reduceCtorEq, nA, nB, nC, nD, nE, nF, Int.reduceBEq, Int.reduceTMod, Int.reduceTDiv, Int.reduceMul, Int.reduceBNe, Int.reduceLT, Int.reduceLE, Int.reduceAdd, Int.reduceSub, Int.reduceNeg, decide_true, decide_false, Bool.true_and, Bool.false_and, Bool.and_true, Bool.and_false, Bool.or_false, Bool.or_true, Bool.true_or, Bool.false_or, Bool.not_true, Bool.not_false, true_implies, false_implies, true_and, and_true, Int.reduceToNat] <;> and_intros <;> first | (apply hK1; clear hK1 K1) | (intros; first | omega | decide) | skip) | (refine awp_cond (t := _) rfl (fun hq => ?_) (fun hq => ?_) <;> first | (exact absurd hq (by decide)) | (cases hq; done) | (clear hq)) | (refine awp_un 8 ?_) | (with_reducible exact rfl) | (with_reducible exact trivial) | ((with_reducible show uside _); first | exact True.intro | exact rfl) | ((with_reducible show opS _ _); exact True.intro) | (refine ⟨AV.v (.bool true), rfl, hK1 _ ?_⟩; clear hK1 K1)))
 refine (h1 _).mono ?_
 rintro _ ha rfl
 refine hK1 _ ?_; clear hK1 K1
 (repeat (first | refine gO rfl ?_ | (refine gM zM24 fun K1 hK1 => ?_; simp only [go_sem, ↓reduceIte, reduceCtorEq, nA, nB, nC, nD, nE, nF, Int.reduceBEq, Int.reduceTMod, Int.reduceTDiv, Int.reduceMul, Int.reduceBNe, Int.reduceLT, Int.reduceLE, Int.reduceAdd, Int.reduceSub, Int.reduceNeg, decide_true, decide_false, Bool.true_and, Bool.false_and, Bool.and_true, Bool.and_false, Bool.or_false, Bool.or_true, Bool.true_or, Bool.false_or, Bool.not_true, Bool.not_false, true_implies, false_implies, true_and, and_true, Int.reduceToNat] <;> and_intros <;> first | (apply hK1; clear hK1 K1) | (intros; first | omega | decide) | skip) | (refine awp_cond (t := _) rfl (fun hq => ?_) (fun hq => ?_) <;> first | (exact absurd hq (by decide)) | (cases hq; done) | (clear hq)) | (refine awp_un 8 ?_) | (with_reducible exact rfl) | (with_reducible exact trivial) | ((with_reducible show uside _); first | exact True.intro | exact rfl) | ((with_reducible show opS _ _); exact True.intro) | (refine ⟨AV.v (.bool true), rfl, hK1 _ ?_⟩; clear hK1 K1)))
 refine (h2 _).mono ?_
 rintro _ hz ⟨rfl, rfl⟩
 refine hK1 _ ?_; clear hK1 K1
 first | refine gO rfl ?_ | (refine gM zM24 fun K1 hK1 => ?_; simp only [go_sem, ↓reduceIte, reduceCtorEq, nA, nB, nC, nD, nE, nF] <;> and_intros <;> first | (apply hK1; clear hK1 K1) | (intros; first | omega | decide | (simp_all <;> omega)) | skip)
 first | refine gO rfl ?_ | (refine gM zM24 fun K1 hK1 => ?_; simp only [go_sem, ↓reduceIte, reduceCtorEq, nA, nB, nC, nD, nE, nF] <;> and_intros <;> first | (apply hK1; clear hK1 K1) | (intros; first | omega | decide | (simp_all <;> omega)) | skip)
 first | refine gO rfl ?_ | (refine gM zM24 fun K1 hK1 => ?_; simp only [go_sem, ↓reduceIte, reduceCtorEq, nA, nB, nC, nD, nE, nF] <;> and_intros <;> first | (apply hK1; clear hK1 K1) | (intros; first | omega | decide | (simp_all <;> omega)) | skip)
 first | refine gO rfl ?_ | (refine gM zM24 fun K1 hK1 => ?_; simp only [go_sem, ↓reduceIte, reduceCtorEq, nA, nB, nC, nD, nE, nF] <;> and_intros <;> first | (apply hK1; clear hK1 K1) | (intros; first | omega | decide | (simp_all <;> omega)) | skip)
 refine awp_cond (t := _) rfl (fun hq => absurd hq (by decide)) (fun hq => ?_)
 clear hq
 first | refine gO rfl ?_ | (refine gM zM24 fun K1 hK1 => ?_; simp only [go_sem, ↓reduceIte, reduceCtorEq, nA, nB, nC, nD, nE, nF] <;> and_intros <;> first | (apply hK1; clear hK1 K1) | (intros; first | omega | decide | (simp_all <;> omega)) | skip)
 refine awp_seq (awp_opsL ?_)
 refine ⟨rfl, (q_move (.inl rfl)).aop ⟨rfl, vEff_sound tyok (md := 0) ?_⟩⟩
 simp only [go_sem, ↓reduceIte, reduceCtorEq, Nat.reduceAdd, Nat.reduceSub, Nat.reduceMul, Nat.reduceLT, Nat.reduceLeDiff, Nat.reduceEqDiff, St.ev, St.put, eK]
 refine ⟨rfl, a_boxObj (cs := [.row 6 [cs] none, .v (.slice none 0 0), .v (.pointer none), .v (.slice none 0 0), .v (.int .i64 0)]) rfl ?_ (fun b hb => ⟨rfl, (q_move (.inr rfl)).aop ?_⟩)⟩
 ·simp only [go_sem, ↓reduceIte, reduceCtorEq, Nat.reduceAdd, Nat.reduceSub, Nat.reduceMul, Nat.reduceLT, Nat.reduceLeDiff, Nat.reduceEqDiff, St.ev, AV.cellsB]
  done
 simp only [go_sem, ↓reduceIte, reduceCtorEq, Nat.reduceAdd, Nat.reduceSub, Nat.reduceMul, Nat.reduceLT, Nat.reduceLeDiff, Nat.reduceEqDiff, St.ev, St.put, OpsL, thenQ]
 refine awp_ownBuf b 3 132 5 (upd_same _ _ _) rfl (fun k hk => ?_)
 simp only [List.set_cons_zero, List.set_cons_succ]
 (repeat (first | refine gO rfl ?_ | (refine gM zM24 fun K1 hK1 => ?_; simp only [go_sem, ↓reduceIte, reduceCtorEq, nA, nB, nC, nD, nE, nF, Int.reduceBEq, Int.reduceTMod, Int.reduceTDiv, Int.reduceMul, Int.reduceBNe, Int.reduceLT, Int.reduceLE, Int.reduceAdd, Int.reduceSub, Int.reduceNeg, decide_true, decide_false, Bool.true_and, Bool.false_and, Bool.and_true, Bool.and_false, Bool.or_false, Bool.or_true, Bool.true_or, Bool.false_or, Bool.not_true, Bool.not_false, true_implies, false_implies, true_and, and_true, Int.reduceToNat] <;> and_intros <;> first | (apply hK1; clear hK1 K1) | (intros; first | omega | decide) | skip) | (refine awp_cond (t := _) rfl (fun hq => ?_) (fun hq => ?_) <;> first | (exact absurd hq (by decide)) | (cases hq; done) | (clear hq)) | (refine awp_un 8 ?_) | (with_reducible exact rfl) | (with_reducible exact trivial) | ((with_reducible show uside _); first | exact True.intro | exact rfl) | ((with_reducible show opS _ _); exact True.intro) | (refine ⟨AV.v (.bool true), rfl, hK1 _ ?_⟩; clear hK1 K1)))
 refine (h3 b k _ (upd_same _ _ _) (upd_same _ _ _)).mono ?_
 rintro _ hx ⟨rfl, rfl⟩
 refine hK1 _ ?_; clear hK1 K1
 have h4 := fun D R X I h hb hT => g_strAt b k D R X I [53] h hb hT (by decide)
 (repeat (first | refine gO rfl ?_ | (refine gM zM24 fun K1 hK1 => ?_; simp only [go_sem, ↓reduceIte, reduceCtorEq, nA, nB, nC, nD, nE, nF, Int.reduceBEq, Int.reduceTMod, Int.reduceTDiv, Int.reduceMul, Int.reduceBNe, Int.reduceLT, Int.reduceLE, Int.reduceAdd, Int.reduceSub, Int.reduceNeg, decide_true, decide_false, Bool.true_and, Bool.false_and, Bool.and_true, Bool.and_false, Bool.or_false, Bool.or_true, Bool.true_or, Bool.false_or, Bool.not_true, Bool.not_false, true_implies, false_implies, true_and, and_true, Int.reduceToNat] <;> and_intros <;> first | (apply hK1; clear hK1 K1) | (intros; first | omega | decide) | skip) | (refine awp_cond (t := _) rfl (fun hq => ?_) (fun hq => ?_) <;> first | (exact absurd hq (by decide)) | (cases hq; done) | (clear hq)) | (refine awp_un 8 ?_) | (with_reducible exact rfl) | (with_reducible exact trivial) | ((with_reducible show uside _); first | exact True.intro | exact rfl) | ((with_reducible show opS _ _); exact True.intro) | (refine ⟨AV.v (.bool true), rfl, hK1 _ ?_⟩; clear hK1 K1)))
 refine (h4 _ _ _ _ _ (upd_same _ _ _) (upd_same _ _ _)).mono ?_
 rintro _ hx ⟨rfl, rfl⟩
 refine hK1 _ ?_; clear hK1 K1
 (repeat (first | refine gO rfl ?_ | (refine gM zM24 fun K1 hK1 => ?_; simp only [go_sem, ↓reduceIte, reduceCtorEq, nA, nB, nC, nD, nE, nF, Int.reduceBEq, Int.reduceTMod, Int.reduceTDiv, Int.reduceMul, Int.reduceBNe, Int.reduceLT, Int.reduceLE, Int.reduceAdd, Int.reduceSub, Int.reduceNeg, decide_true, decide_false, Bool.true_and, Bool.false_and, Bool.and_true, Bool.and_false, Bool.or_false, Bool.or_true, Bool.true_or, Bool.false_or, Bool.not_true, Bool.not_false, true_implies, false_implies, true_and, and_true, Int.reduceToNat] <;> and_intros <;> first | (apply hK1; clear hK1 K1) | (intros; first | omega | decide) | skip) | (refine awp_cond (t := _) rfl (fun hq => ?_) (fun hq => ?_) <;> first | (exact absurd hq (by decide)) | (cases hq; done) | (clear hq)) | (refine awp_un 8 ?_) | (with_reducible exact rfl) | (with_reducible exact trivial) | ((with_reducible show uside _); first | exact True.intro | exact rfl) | ((with_reducible show opS _ _); exact True.intro) | (refine ⟨AV.v (.bool true), rfl, hK1 _ ?_⟩; clear hK1 K1)))
 simp only [Tryz.results55, go_sem, ↓reduceIte, reduceCtorEq, nA, nB, nC, nD, nE, nF]
 exact ⟨_, _, Weak.refl _, Hp.le.refl _, rfl⟩
open Go
set_option linter.unusedVariables false
set_option linter.unusedSimpArgs false
section
variable {α : Type} (cf : α → α → Int)
def insR : List α → α → List α
  | [], x => [x]
  | y :: r, x => if cf x y < 0 then y :: insR r x else x :: y :: r
def insS (xs : List α) : List α := xs.foldl (insR cf) []
def sortI (xs : List α) : List α := (insS cf xs).reverse
theorem insS_snoc (xs : List α) (x : α) : insS cf (xs ++ [x]) = insR cf (insS cf xs) x := by simp [insS]
theorem insR_perm : ∀ (r : List α) (x : α), (insR cf r x).Perm (x :: r)
  | [], _ => List.Perm.refl _
  | y :: r, x => by
    unfold insR
    split
    · exact ((insR_perm r x).cons y).trans (List.Perm.swap x y r)
    · exact List.Perm.refl _
theorem foldI_perm : ∀ (xs r : List α), (xs.foldl (insR cf) r).Perm (r ++ xs)
  | [], r => by simp
  | x :: xs, r => by
    refine (foldI_perm xs (insR cf r x)).trans ?_
    exact ((insR_perm cf r x).append_right xs).trans List.perm_middle.symm
theorem insS_perm (xs : List α) : (insS cf xs).Perm xs := by simpa [insS] using foldI_perm cf xs []
theorem insS_len (xs : List α) : (insS cf xs).length = xs.length := (insS_perm cf xs).length_eq
theorem sortI_perm (xs : List α) : (sortI cf xs).Perm xs := (List.reverse_perm _).trans (insS_perm cf xs)
theorem sortI_len (xs : List α) : (sortI cf xs).length = xs.length := (sortI_perm cf xs).length_eq
end
open Go
set_option linter.unusedVariables false
set_option linter.unusedSimpArgs false
abbrev Kp := ByteArray × Int × Bool × Int × Int × Int
def encKp (x : Kp) : List AV := [.v (.string x.1), .v (.int .i64 x.2.1), .v (.bool x.2.2.1), .v (.int .i64 x.2.2.2.1), .v (.int .i64 x.2.2.2.2.1), .v (.int .i64 x.2.2.2.2.2)]
def cmpI (x y : Int) : Int := if x < y then -1 else if y < x then 1 else 0
def cmpK (rule : Int) (a b : Kp) : Int :=
  if (if rule = 2 then cmpI a.2.2.2.2.2 b.2.2.2.2.2 else if rule = 3 then cmpI a.2.2.2.1 b.2.2.2.1 else if rule = 4 then cmpI b.2.1 a.2.1 else 0) = 0 then cmpI a.2.2.2.2.1 b.2.2.2.2.1
  else if rule = 2 then cmpI a.2.2.2.2.2 b.2.2.2.2.2 else if rule = 3 then cmpI a.2.2.2.1 b.2.2.2.1 else if rule = 4 then cmpI b.2.1 a.2.1 else 0
def orderF (rule : Int) (K : Nat → Kp) (ps : List Nat) : List Nat := sortI (fun p q => cmpK rule (K p) (K q)) (ps.filter fun p => !(K p).2.2.1)
def overF (item : ByteArray) (K : Nat → Kp) : List Nat → Int → Int
  | [], o => o
  | p :: ps, o => overF item K ps (if (K p).1 = item then o else o + (K p).2.1)
def goF (item : ByteArray) (K : Nat → Kp) : List Nat → Int → List Nat × Int
  | [], o => ([], o)
  | p :: ps, o => if o ≤ 0 then ([], o) else if (K p).1 = item then goF item K ps o else (p :: (goF item K ps (o - (K p).2.1)).1, (goF item K ps (o - (K p).2.1)).2)
def goingF (item : ByteArray) (bytes room rule : Int) (K : Nat → Kp) (ps : List Nat) : List Nat × Int := goF item K (orderF rule K ps) (overF item K ps (bytes - room))
theorem orderF_mem {rule : Int} {K : Nat → Kp} {ps : List Nat} {p : Nat} (h : p ∈ orderF rule K ps) : p ∈ ps := (List.mem_filter.1 ((sortI_perm _ _).mem_iff.1 h)).1
theorem orderF_len (rule : Int) (K : Nat → Kp) (ps : List Nat) : (orderF rule K ps).length ≤ ps.length := by
  rw [orderF, sortI_len]; exact List.length_filter_le _ _
theorem goF_mem {item : ByteArray} {K : Nat → Kp} : ∀ {ps : List Nat} {o : Int} {p : Nat}, p ∈ (goF item K ps o).1 → p ∈ ps
  | [], _, _, h => by simp [goF] at h
  | q :: ps, o, p, h => by
    unfold goF at h
    split at h
    · simp at h
    · split at h
      · exact List.mem_cons_of_mem _ (goF_mem h)
      · rcases List.mem_cons.1 h with rfl | h
        · exact List.mem_cons_self
        · exact List.mem_cons_of_mem _ (goF_mem h)
theorem goF_len (item : ByteArray) (K : Nat → Kp) : ∀ (ps : List Nat) (o : Int), (goF item K ps o).1.length ≤ ps.length
  | [], _ => by simp [goF]
  | q :: ps, o => by
    unfold goF
    split
    · simp
    · split
      · have := goF_len item K ps o; simp only [List.length_cons]; omega
      · have := goF_len item K ps (o - (K q).2.1); simp only [List.length_cons]; omega
def stayF (gone ps : List Nat) : List Nat := ps.filter fun p => !gone.contains p
open Nat renaming reduceAdd → nA, reduceSub → nB, reduceMul → nC, reduceLT → nD, reduceLeDiff → nE, reduceEqDiff → nF, reduceMod → nG, reduceDiv → nH, reducePow → nI
set_option maxRecDepth 100000
set_option maxHeartbeats 8000000
def encR (p : Nat) : List AV := [.ptr p 0]
def encRV (p : Nat) : AV := .ptr p 0
def idxR (pr : Nat → Bool) (ps : List Nat) : Int := match ps.findIdx? pr with
 | some j => j
 | none => -1
theorem idxR_at {pr : Nat → Bool} {ps : List Nat} {j : Nat} (hj : j < ps.length) (hp : pr (ps.getD j default) = true) (hn : ∀ i, i < j → pr (ps.getD i default) = false) : idxR pr ps = j := by
 have e : ps.findIdx? pr = some j := by
  rw [List.findIdx?_eq_some_iff_getElem]
  refine ⟨hj, ?_, fun i hi => ?_⟩
  ·rwa [List.getD_eq_getElem?_getD, List.getElem?_eq_getElem hj] at hp
  ·have h9 := hn i hi
   rw [List.getD_eq_getElem?_getD, List.getElem?_eq_getElem (by omega)] at h9
   simpa using h9
 rw [idxR, e]
theorem idxR_no {pr : Nat → Bool} {ps : List Nat} (hn : ∀ i, i < ps.length → pr (ps.getD i default) = false) : idxR pr ps = -1 := by
 have e : ps.findIdx? pr = none := by
  rw [List.findIdx?_eq_none_iff]
  intro x hx
  obtain ⟨i, hi, rfl⟩ := List.getElem_of_mem hx
  have h9 := hn i hi
  rwa [List.getD_eq_getElem?_getD, List.getElem?_eq_getElem hi] at h9
 rw [idxR, e]
theorem g_idxK {f : Nat} {caps : List AV} (pr : Nat → Bool) (k : Nat) (ps : List Nat) (h : Hp) (hT : h.T k = some (.cont 1 (ps.map encR))) (hl : ps.length ≤ 100000)
  (hc : ∀ p ∈ ps, ACalls Tryz.prog f ([.ptr p 0] ++ caps) h (fun r h' => r = .v (.bool (pr p)) ∧ h' = h)) :
  ACalls Tryz.prog 119 [.arr 1 k ps.length, .fn f caps] h (fun r h' => r = .v (.int .i64 (idxR pr ps)) ∧ h' = h) := by
 have hml : (ps.map encR).length = ps.length := List.length_map _
 refine gE Tryz.func119 rfl (by kernel_rfl) 17 rfl fun c => ?_
 (repeat (first | refine gO rfl ?_ | (refine gR fun K1 hK1 => ?_; simp only [go_sem, ↓reduceIte, reduceCtorEq, nA, nB, nC, nD, nE, nF] <;> and_intros <;> first | (apply hK1; clear hK1 K1) | (intros; first | omega | decide | (simp_all <;> omega)) | skip)))
 refine awp_loopC (rl false [0, 2, 5, 2, 10]) 0 (fun g s => ∃ j : Nat, g + j = ps.length ∧ (∀ i, i < j → pr (ps.getD i default) = false) ∧
  s = ⟨((.arr 1 k ps.length) :: (.fn f caps) :: (jnk 5 ((.v (.int .i64 ps.length)) :: (.v (.int .i64 j)) :: (jnk 10 [])))), [], h⟩) ps.length ⟨0, by omega, fun i hi => by omega, rfl⟩ ?_
 rintro g _ ⟨j, hj, hn, rfl⟩
 (repeat (first | refine gO rfl ?_ | (refine gR fun K1 hK1 => ?_; simp only [go_sem, ↓reduceIte, reduceCtorEq, nA, nB, nC, nD, nE, nF] <;> and_intros <;> first | (apply hK1; clear hK1 K1) | (intros; first | omega | decide) | skip)))
 refine awp_cond (t := _) rfl (fun h1 => ?_) (fun h1 => ?_)
 ·simp only [decide_eq_true_eq] at h1
  have hjl : j < ps.length := by omega
  have gx : (ps.map encR).getD j [] = encR (ps.getD j default) := getD_enc encR ps j default hjl
  have hcc := hc (ps.getD j default) (by rw [List.getD_eq_getElem?_getD, List.getElem?_eq_getElem hjl]; exact List.getElem_mem _)
  obtain ⟨p, hp⟩ : ∃ p, ps.getD j default = p := ⟨_, rfl⟩
  rw [hp] at gx hcc
  (repeat (first | refine gO rfl ?_ | (refine gR fun K1 hK1 => ?_; simp only [go_sem, ↓reduceIte, reduceCtorEq, nA, nB, nC, nD, nE, nF, hT, hml, Int.toNat_natCast, gx, encR] <;> and_intros <;> first | (apply hK1; clear hK1 K1) | (intros; first | omega | decide) | skip)))
  refine hcc.mono ?_; rintro _ hz ⟨rfl, hh⟩; apply hK1; clear hK1 K1; rw [hh]; clear hh hz
  cases hb : pr p with
  | true =>
   (repeat (first | refine gO rfl ?_ | (refine gR fun K1 hK1 => ?_; simp only [go_sem, ↓reduceIte, reduceCtorEq, nA, nB, nC, nD, nE, nF] <;> and_intros <;> first | (apply hK1; clear hK1 K1) | (intros; first | omega | decide) | skip)))
   refine awp_cond (t := _) rfl (fun _ => ?_) (fun h9 => by cases h9)
   (repeat (first | refine gO rfl ?_ | (refine gR fun K1 hK1 => ?_; simp only [go_sem, ↓reduceIte, reduceCtorEq, nA, nB, nC, nD, nE, nF] <;> and_intros <;> first | (apply hK1; clear hK1 K1) | (intros; first | omega | decide) | skip)))
   simp only [Tryz.results119, go_sem, ↓reduceIte, reduceCtorEq, nA, nB, nC, nD, nE, nF]
   exact ⟨_, _, Weak.refl _, Hp.le.refl _, by rw [idxR_at hjl (by rw [hp]; exact hb) hn], rfl⟩
  | false =>
   (repeat (first | refine gO rfl ?_ | (refine gR fun K1 hK1 => ?_; simp only [go_sem, ↓reduceIte, reduceCtorEq, nA, nB, nC, nD, nE, nF] <;> and_intros <;> first | (apply hK1; clear hK1 K1) | (intros; first | omega | decide) | skip)))
   refine awp_cond (t := _) rfl (fun h9 => by cases h9) (fun _ => ?_)
   (repeat (first | refine gO rfl ?_ | (refine gR fun K1 hK1 => ?_; simp only [go_sem, ↓reduceIte, reduceCtorEq, nA, nB, nC, nD, nE, nF] <;> and_intros <;> first | (apply hK1; clear hK1 K1) | (intros; first | omega | decide) | skip)))
   refine ⟨g - 1, by omega, j + 1, by omega, fun i hi => ?_, rfl⟩
   rcases Nat.lt_succ_iff_lt_or_eq.1 hi with h9 | rfl
   ·exact hn i h9
   ·rw [hp]; exact hb
 ·simp only [decide_eq_false_iff_not] at h1
  (repeat (first | refine gO rfl ?_ | (refine gR fun K1 hK1 => ?_; simp only [go_sem, ↓reduceIte, reduceCtorEq, nA, nB, nC, nD, nE, nF] <;> and_intros <;> first | (apply hK1; clear hK1 K1) | (intros; first | omega | decide) | skip)))
  simp only [Tryz.results119, go_sem, ↓reduceIte, reduceCtorEq, nA, nB, nC, nD, nE, nF]
  exact ⟨_, _, Weak.refl _, Hp.le.refl _, by rw [idxR_no (fun i hi => hn i (by omega))], rfl⟩
theorem idxR_cases (pr : Nat → Bool) (ps : List Nat) : ((∀ p ∈ ps, pr p = false) ∧ idxR pr ps = -1) ∨ ∃ j, j < ps.length ∧ idxR pr ps = j ∧ pr (ps.getD j default) = true ∧ ∀ i, i < j → pr (ps.getD i default) = false := by
 unfold idxR
 cases e : ps.findIdx? pr with
 | none =>
  rw [List.findIdx?_eq_none_iff] at e
  exact .inl ⟨e, rfl⟩
 | some j =>
  rw [List.findIdx?_eq_some_iff_getElem] at e
  obtain ⟨hj, h1, h2⟩ := e
  refine .inr ⟨j, hj, rfl, ?_, fun i hi => ?_⟩
  ·rw [List.getD_eq_getElem?_getD, List.getElem?_eq_getElem hj]; exact h1
  ·have := h2 i hi
   rw [List.getD_eq_getElem?_getD, List.getElem?_eq_getElem (by omega)]
   simpa using this
theorem getD_mid' {α : Type} (A : List α) (x : α) (B : List α) (d : α) : (A ++ x :: B).getD A.length d = x := by
 rw [List.getD_eq_getElem?_getD, List.getElem?_append_right (Nat.le_refl _), Nat.sub_self]; rfl
theorem set_mid' {α : Type} (A : List α) (x y : α) (B : List α) : (A ++ x :: B).set A.length y = A ++ y :: B := by
 rw [List.set_append_right _ _ (Nat.le_refl _), Nat.sub_self]; rfl
theorem drop_at' {α : Type} (l : List α) (j : Nat) (d : α) (h : j < l.length) : l.drop j = l.getD j d :: l.drop (j + 1) := by
 rw [List.drop_eq_getElem_cons h, List.getD_eq_getElem?_getD, List.getElem?_eq_getElem h]; rfl
theorem take_at' {α : Type} (l : List α) (j : Nat) (d : α) (h : j < l.length) : l.take (j + 1) = l.take j ++ [l.getD j d] := by
 rw [List.take_add_one, List.getElem?_eq_getElem h, List.getD_eq_getElem?_getD, List.getElem?_eq_getElem h]; rfl
theorem g_delK {f : Nat} {caps : List AV} (pr : Nat → Bool) (k : Nat) (ps : List Nat) (h : Hp) (hT : h.T k = some (.cont 1 (ps.map encR))) (hl : ps.length ≤ 100000)
  (hc : ∀ p ∈ ps, ∀ T', ACalls Tryz.prog f ([.ptr p 0] ++ caps) ⟨h.H, T'⟩ (fun r h' => r = .v (.bool (pr p)) ∧ h' = ⟨h.H, T'⟩)) :
  ACalls Tryz.prog 122 [.arr 1 k ps.length, .fn f caps] h (fun r h' => ∃ q, r = .arr 1 q (ps.filter fun p => !pr p).length ∧ h'.H = h.H ∧ h'.T q = some (.cont 1 ((ps.filter fun p => !pr p).map encR)) ∧ ∀ t, t ≠ k → h.T t ≠ none → t ≠ q ∧ h'.T t = h.T t) := by
 have hix := g_idxK pr k ps h hT hl (fun p hp => hc p hp h.T)
 refine gE Tryz.func122 rfl (by kernel_rfl) 40 rfl fun c => ?_
 (repeat (first | refine gO rfl ?_ | (refine gM zM25 fun K1 hK1 => ?_; simp only [go_sem, ↓reduceIte, reduceCtorEq, nA, nB, nC, nD, nE, nF] <;> and_intros <;> first | (apply hK1; clear hK1 K1) | (intros; first | omega | decide | (simp_all <;> omega)) | skip)))
 refine hix.mono ?_; rintro _ hz ⟨rfl, hh⟩; apply hK1; clear hK1 K1; rw [hh]; clear hh hz
 clear hix
 rcases idxR_cases pr ps with ⟨hno, e⟩ | ⟨j0, hj0, e, hp0, hn0⟩
 ·rw [e]
  have ef : ps.filter (fun p => !pr p) = ps := List.filter_eq_self.2 fun p hp => by simp [hno p hp]
  rw [ef]
  have hb : ((-1 : Int) == -1) = true := rfl
  clear hc
  (repeat (first | refine gO rfl ?_ | (refine gM zM25 fun K1 hK1 => ?_; simp only [go_sem, ↓reduceIte, reduceCtorEq, nA, nB, nC, nD, nE, nF, hb] <;> and_intros <;> first | (apply hK1; clear hK1 K1) | (intros; first | omega | decide) | skip)))
  refine awp_cond (t := _) rfl (fun _ => ?_) (fun h9 => by cases h9)
  (repeat (first | refine gO rfl ?_ | (refine gM zM25 fun K1 hK1 => ?_; simp only [go_sem, ↓reduceIte, reduceCtorEq, nA, nB, nC, nD, nE, nF] <;> and_intros <;> first | (apply hK1; clear hK1 K1) | (intros; first | omega | decide) | skip)))
  simp only [Tryz.results122, go_sem, ↓reduceIte, reduceCtorEq, nA, nB, nC, nD, nE, nF]
  exact ⟨_, _, Weak.refl _, Hp.le.refl _, k, rfl, rfl, hT, fun t ht _ => ⟨ht, rfl⟩⟩
 ·rw [e]
  have hb : ((j0 : Int) == -1) = false := by
   rw [beq_eq_false_iff_ne]; omega
  (repeat (first | refine gO rfl ?_ | (refine gM zM25 fun K1 hK1 => ?_; simp only [go_sem, ↓reduceIte, reduceCtorEq, nA, nB, nC, nD, nE, nF, hb] <;> and_intros <;> first | (apply hK1; clear hK1 K1) | (intros; first | omega | decide) | skip)))
  refine awp_cond (t := _) rfl (fun h9 => by cases h9) (fun _ => ?_)
  (repeat (first | refine gO rfl ?_ | (refine gM zM25 fun K1 hK1 => ?_; simp only [go_sem, ↓reduceIte, reduceCtorEq, nA, nB, nC, nD, nE, nF] <;> and_intros <;> first | (apply hK1; clear hK1 K1) | (intros; first | omega | decide) | skip)))
  have hT0 : (ps.take j0).filter (fun p => !pr p) = ps.take j0 := List.filter_eq_self.2 fun p hp => by
   obtain ⟨i, hi, rfl⟩ := List.getElem_of_mem hp
   rw [List.length_take] at hi
   have h9 := hn0 i (by omega)
   rw [List.getD_eq_getElem?_getD, List.getElem?_eq_getElem (by omega)] at h9
   rw [List.getElem_take]
   simpa using h9
  refine awp_loopC (rl false [0, 2, 3, 2, 35]) 0 (fun g s => ∃ (j : Nat) (Fl M : List Nat), g + j = ps.length ∧ Fl = (ps.take j).filter (fun p => !pr p) ∧ M ≠ [] ∧ Fl.length + M.length = j ∧
   s = ⟨((.arr 1 k ps.length) :: (.fn f caps) :: (jnk 3 ((.v (.int .i64 Fl.length)) :: (.v (.int .i64 j)) :: (jnk 35 [])))), [], ⟨h.H, upd h.T k (some (.cont 1 ((Fl ++ (M ++ ps.drop j)).map encR)))⟩⟩) (ps.length - (j0 + 1))
   ⟨j0 + 1, ps.take j0, [ps.getD j0 default], by omega, by rw [take_at' ps j0 default hj0, List.filter_append, hT0, List.filter_cons_of_neg (p := fun p => !pr p) (show ¬ (!pr (ps.getD j0 default)) = true by rw [hp0]; decide)]; simp, by simp, by rw [List.length_take, List.length_singleton]; omega, ?_⟩ ?_
  ·have e1 : ps.take j0 ++ ([ps.getD j0 default] ++ ps.drop (j0 + 1)) = ps := by
    rw [List.singleton_append, ← drop_at' ps j0 default hj0, List.take_append_drop]
   have e2 : upd h.T k (some (TO.cont 1 (ps.map encR))) = h.T := by
    funext q
    by_cases e : q = k
    ·rw [e, upd_same, hT]
    ·rw [upd_other _ _ e]
   have e3 : (ps.take j0).length = j0 := by rw [List.length_take]; omega
   rw [e1, e2, e3]; rfl
  rintro g _ ⟨j, Fl, M, hj, hF, hM, hlen, rfl⟩
  have hTq : ∀ X, upd h.T k (some (TO.cont 1 X)) k = some (.cont 1 X) := fun X => upd_same _ _ _
  have hcl : ((Fl ++ (M ++ ps.drop j)).map encR).length = ps.length := by simp; omega
  (repeat (first | refine gO rfl ?_ | (refine gM zM25 fun K1 hK1 => ?_; simp only [go_sem, ↓reduceIte, reduceCtorEq, nA, nB, nC, nD, nE, nF] <;> and_intros <;> first | (apply hK1; clear hK1 K1) | (intros; first | omega | decide) | skip)))
  refine awp_cond (t := _) rfl (fun h1 => ?_) (fun h1 => ?_)
  ·simp only [decide_eq_true_eq] at h1
   have hjl : j < ps.length := by omega
   have hdj := drop_at' ps j default hjl
   have htj := take_at' ps j default hjl
   have hvm : ps.getD j default ∈ ps := by
    rw [List.getD_eq_getElem?_getD, List.getElem?_eq_getElem hjl]; exact List.getElem_mem _
   obtain ⟨v, hv⟩ : ∃ v, ps.getD j default = v := ⟨_, rfl⟩
   rw [hv] at hdj htj hvm
   have gx : ((Fl ++ (M ++ ps.drop j)).map encR).getD j [] = encR v := by
    rw [hdj, ← List.append_assoc, List.map_append, List.map_cons]
    have := getD_mid' ((Fl ++ M).map encR) (encR v) ((ps.drop (j + 1)).map encR) []
    rwa [List.length_map, List.length_append, hlen] at this
   have hcc := fun T' => hc v hvm T'
   obtain ⟨m0, M1, rfl⟩ := List.exists_cons_of_ne_nil hM
   have gs : (((Fl ++ (m0 :: M1 ++ ps.drop j)).map encR).set Fl.length (encR v)) = (((Fl ++ [v]) ++ ((M1 ++ [v]) ++ ps.drop (j + 1))).map encR) := by
    rw [hdj, List.map_append, List.cons_append, List.map_cons]
    have := set_mid' (Fl.map encR) (encR m0) (encR v) ((M1 ++ v :: ps.drop (j + 1)).map encR)
    rw [List.length_map] at this
    rw [this]; simp
   have hfl : Fl.length < ps.length := by simp at hlen; omega
   have gd : (((Fl ++ (m0 :: M1 ++ ps.drop j)).map encR).getD Fl.length []) = encR m0 := by
    rw [List.map_append, List.cons_append, List.map_cons]
    have := getD_mid' (Fl.map encR) (encR m0) ((M1 ++ ps.drop j).map encR) []
    rwa [List.length_map] at this
   simp only [encR] at gs gd
   generalize hct : (Fl ++ (m0 :: M1 ++ ps.drop j)).map encR = ct at *
   (repeat (first | refine gO rfl ?_ | (refine gM zM25 fun K1 hK1 => ?_; simp only [go_sem, ↓reduceIte, reduceCtorEq, nA, nB, nC, nD, nE, nF, hTq, hcl, Int.toNat_natCast, gx, encR] <;> and_intros <;> first | (apply hK1; clear hK1 K1) | (intros; first | omega | decide) | skip)))
   refine (hcc _).mono ?_; rintro _ hz ⟨rfl, hh⟩; apply hK1; clear hK1 K1; rw [hh]; clear hh hz
   cases hpv : pr v with
   | true =>
    (repeat (first | refine gO rfl ?_ | (refine gM zM25 fun K1 hK1 => ?_; simp only [go_sem, ↓reduceIte, reduceCtorEq, nA, nB, nC, nD, nE, nF] <;> and_intros <;> first | (apply hK1; clear hK1 K1) | (intros; first | omega | decide) | skip)))
    refine awp_cond (t := _) rfl (fun h9 => by cases h9) (fun _ => ?_)
    (repeat (first | refine gO rfl ?_ | (refine gM zM25 fun K1 hK1 => ?_; simp only [go_sem, ↓reduceIte, reduceCtorEq, nA, nB, nC, nD, nE, nF] <;> and_intros <;> first | (apply hK1; clear hK1 K1) | (intros; first | omega | decide) | skip)))
    refine ⟨g - 1, by omega, j + 1, Fl, m0 :: M1 ++ [v], by omega, by rw [htj, List.filter_append, ← hF]; simp [hpv], by simp, by simp at hlen ⊢; omega, ?_⟩
    rw [← hct, hdj]
    simp only [List.append_assoc, List.cons_append, List.nil_append]
    rfl
   | false =>
    (repeat (first | refine gO rfl ?_ | (refine gM zM25 fun K1 hK1 => ?_; simp only [go_sem, ↓reduceIte, reduceCtorEq, nA, nB, nC, nD, nE, nF] <;> and_intros <;> first | (apply hK1; clear hK1 K1) | (intros; first | omega | decide) | skip)))
    refine awp_cond (t := _) rfl (fun _ => ?_) (fun h9 => by cases h9)
    (repeat (first | refine gO rfl ?_ | (refine gM zM25 fun K1 hK1 => ?_; simp only [go_sem, ↓reduceIte, reduceCtorEq, nA, nB, nC, nD, nE, nF, hTq, hcl, Int.toNat_natCast, gd, upd_upd] <;> and_intros <;> first | (apply hK1; clear hK1 K1) | (intros; first | omega | decide) | skip)))
    refine ⟨g - 1, by omega, j + 1, Fl ++ [v], M1 ++ [v], by omega, by rw [htj, List.filter_append, ← hF]; simp [hpv], by simp, by simp at hlen ⊢; omega, ?_⟩
    simp only [List.drop_succ_cons, List.drop_zero, gs, List.length_append, List.length_singleton]
    rfl
  ·simp only [decide_eq_false_iff_not] at h1
   have hjl : j = ps.length := by omega
   subst hjl
   rw [List.take_length] at hF
   rw [List.drop_length, List.append_nil] at *
   clear h1 hj hc
   (repeat refine gO rfl ?_)
   have hml : (Fl ++ M).length = ps.length := by rw [List.length_append]; exact hlen
   have hMl := List.length_pos_iff.2 hM
   refine awp_seq ?_
   refine awp_AL ?_
   refine AL.cons rfl (Quiet.aop (q_move (.inl rfl)) ?_)
   refine AL.cons rfl (Quiet.aop (q_move (.inl rfl)) ?_)
   refine al_clear (z := 1) (k := k) (n := ps.length) (j := Fl.length) (xs := (Fl ++ M).map encR) tyok rfl rfl rfl rfl rfl rfl rfl rfl (upd_same _ _ _) (by rw [List.length_map, hml]) (by omega) (by omega) rfl rfl (by decide) (show 38 < 42 by decide) ?_
   have hfin : ((Fl ++ M).map encR).take ((Fl.length : Int)).toNat ++ List.replicate (ps.length - ((Fl.length : Int)).toNat) [AV.v (Value.pointer none)] = Fl.map encR ++ List.replicate M.length [AV.v (Value.pointer none)] := by
    rw [Int.toNat_natCast, List.map_append, List.take_append_of_le_length (by rw [List.length_map]; exact Nat.le_refl _), List.take_of_length_le (by rw [List.length_map]; exact Nat.le_refl _)]
    congr 2
    omega
   refine awp_cut (rl false [0, 1, 4, 1, 36]) 0 (?_ : Awp _ _ _ _ ⟨((.arr 1 k ps.length) :: (jnk 4 ((.v (.int .i64 Fl.length)) :: (jnk 36 [])))), [], ⟨h.H, upd (upd h.T k (some (.cont 1 ((Fl ++ M).map encR)))) k (some (.cont 1 (((Fl ++ M).map encR).take ((Fl.length : Int)).toNat ++ List.replicate (ps.length - ((Fl.length : Int)).toNat) [AV.v (Value.pointer none)])))⟩⟩)
   rw [hfin, upd_upd]
   have hzl : (Fl.map encR ++ List.replicate M.length [AV.v (Value.pointer none)]).length = ps.length := by simp; omega
   have htk : (Fl.map encR ++ List.replicate M.length [AV.v (Value.pointer none)]).take Fl.length = Fl.map encR := by
    rw [List.take_append_of_le_length (by rw [List.length_map]; exact Nat.le_refl _), List.take_of_length_le (by rw [List.length_map]; exact Nat.le_refl _)]
   generalize Fl.map encR ++ List.replicate M.length [AV.v (Value.pointer none)] = Z at hzl htk ⊢
   have hTz : ∀ X, upd h.T k (some (TO.cont 1 X)) k = some (.cont 1 X) := fun X => upd_same _ _ _
   (repeat (first | refine gO rfl ?_ | (refine gM zM25 fun K1 hK1 => ?_; simp only [go_sem, ↓reduceIte, reduceCtorEq, nA, nB, nC, nD, nE, nF, hTz, hzl] <;> and_intros <;> first | (apply hK1; clear hK1 K1) | (intros; first | omega | decide) | skip)))
   ·trivial
   ·trivial
   intro q hq
   rw [Int.toNat_natCast, htk]
   refine hK1 _ ?_; clear hK1 K1
   have hqk : q ≠ k := by
    intro e
    rw [e, upd_same] at hq; cases hq
   rw [upd_other _ _ hqk] at hq
   (repeat (first | refine gO rfl ?_ | (refine gM zM25 fun K1 hK1 => ?_; simp only [go_sem, ↓reduceIte, reduceCtorEq, nA, nB, nC, nD, nE, nF] <;> and_intros <;> first | (apply hK1; clear hK1 K1) | (intros; first | omega | decide) | skip)))
   rw [← hF]
   simp only [Tryz.results122, go_sem, ↓reduceIte, reduceCtorEq, nA, nB, nC, nD, nE, nF]
   refine ⟨_, _, Weak.refl _, Hp.le.refl _, q, rfl, rfl, upd_same _ _ _, fun t ht hn => ?_⟩
   have htq : t ≠ q := fun e => hn (e ▸ hq)
   exact ⟨htq, (upd_other _ _ htq).trans (upd_other _ _ ht)⟩
abbrev zPPE : List Nat := [0, 1, 2, 3, 4, 5, 6]
abbrev zPPP : List (Nat × List Nat × List Nat) := []
attribute [go_sem] zPPE zPPP
def CacheH (h : Hp) (K : Nat → Kp) (ps : List Nat) : Prop := ∀ p ∈ ps, h.H p = some (.cells (encKp (K p)))
def encCa (room rule now : Int) (k n : Nat) : List AV := [.v (.int .i64 room), .v (.int .i64 rule), .v (.int .i64 now), .arr 1 k n]
def nilP : AV := .v (Value.pointer none)
def findF (item : ByteArray) (K : Nat → Kp) (ps : List Nat) : AV := match ps.find? (fun p => (K p).1 == item) with
 | some p => .ptr p 0
 | none => nilP
theorem g_find1 {item : ByteArray} {x : Kp} {p : Nat} {h : Hp} (hp : h.H p = some (.cells (encKp x))) :
  ACalls Tryz.prog 120 ([.ptr p 0] ++ [.ref [.v (.string item)] 0]) h (fun r h' => r = .v (.bool (x.1 == item)) ∧ h' = h) := by
 obtain ⟨k, b, pi, ca, la, ma⟩ := x
 refine gE Tryz.func120 rfl (by kernel_rfl) 8 rfl fun c => ?_
 (repeat (first | refine gO rfl ?_ | ((first | refine gR ?_ | (with_reducible refine wM ?_ ?_) | ((with_reducible refine xS ?_); refine uD 1 zM26 zPPE zPPP 10 rfl (by kernel_rfl) ?_)) <;> ((try with_reducible intro K1 hK1); simp only [go_sem, ↓reduceIte, reduceCtorEq, nA, nB, nC, nD, nE, nF, hp, encKp] <;> and_intros <;> first | (apply hK1; clear hK1 K1) | (intros; first | omega | decide | (simp_all <;> omega)) | skip))))
 simp only [Tryz.results120, go_sem, ↓reduceIte, reduceCtorEq, nA, nB, nC, nD, nE, nF]
 exact ⟨_, _, Weak.refl _, Hp.le.refl _, rfl, rfl⟩
theorem g_find {item : ByteArray} (K : Nat → Kp) (ci k : Nat) (room rule now : Int) (ps : List Nat) (h : Hp) (hC : h.H ci = some (.cells (encCa room rule now k ps.length))) (hT : h.T k = some (.cont 1 (ps.map encR))) (hl : ps.length ≤ 100000) (hK : CacheH h K ps) :
  ACalls Tryz.prog 92 [.ptr ci 0, .v (.string item)] h (fun r h' => r = findF item K ps ∧ h' = h) := by
 have hix := g_idxK (fun p => (K p).1 == item) k ps h hT hl (fun p hp => g_find1 (item := item) (hK p hp))
 have hml : (ps.map encR).length = ps.length := List.length_map _
 refine gE Tryz.func92 rfl (by kernel_rfl) 19 rfl fun c => ?_
 (repeat (first | refine gO rfl ?_ | (refine gR fun K1 hK1 => ?_; simp only [go_sem, ↓reduceIte, reduceCtorEq, nA, nB, nC, nD, nE, nF, hC, encCa] <;> and_intros <;> first | (apply hK1; clear hK1 K1) | (intros; first | omega | decide | (simp_all <;> omega)) | skip)))
 refine hix.mono ?_; rintro _ hz ⟨rfl, hh⟩; apply hK1; clear hK1 K1; rw [hh]; clear hh hz
 clear hix
 rcases idxR_cases (fun p => (K p).1 == item) ps with ⟨hno, e⟩ | ⟨j0, hj0, e, hp0, hn0⟩
 ·rw [e]
  have ef : findF item K ps = nilP := by
   rw [findF, List.find?_eq_none.2 fun p hp => by simp only [hno p hp]; decide]
  (repeat (first | refine gO rfl ?_ | (refine gR fun K1 hK1 => ?_; simp only [go_sem, ↓reduceIte, reduceCtorEq, nA, nB, nC, nD, nE, nF] <;> and_intros <;> first | (apply hK1; clear hK1 K1) | (intros; first | omega | decide) | skip)))
  refine awp_cond (t := _) rfl (fun _ => ?_) (fun h9 => by simp at h9)
  (repeat (first | refine gO rfl ?_ | (refine gR fun K1 hK1 => ?_; simp only [go_sem, ↓reduceIte, reduceCtorEq, nA, nB, nC, nD, nE, nF] <;> and_intros <;> first | (apply hK1; clear hK1 K1) | (intros; first | omega | decide) | skip)))
  simp only [Tryz.results92, go_sem, ↓reduceIte, reduceCtorEq, nA, nB, nC, nD, nE, nF]
  exact ⟨_, _, Weak.refl _, Hp.le.refl _, by rw [ef]; rfl, rfl⟩
 ·rw [e]
  have ef : findF item K ps = .ptr (ps.getD j0 default) 0 := by
   have hfd : ps.find? (fun p => (K p).1 == item) = some (ps.getD j0 default) := List.find?_eq_some_iff_getElem.2 ⟨hp0, j0, hj0, by rw [List.getD_eq_getElem?_getD, List.getElem?_eq_getElem hj0]; rfl, fun i hi => by
    have := hn0 i hi
    rw [List.getD_eq_getElem?_getD, List.getElem?_eq_getElem (by omega)] at this
    simpa using this⟩
   rw [findF, hfd]
  have gx : (ps.map encR).getD j0 [] = encR (ps.getD j0 default) := getD_enc encR ps j0 default hj0
  (repeat (first | refine gO rfl ?_ | (refine gR fun K1 hK1 => ?_; simp only [go_sem, ↓reduceIte, reduceCtorEq, nA, nB, nC, nD, nE, nF] <;> and_intros <;> first | (apply hK1; clear hK1 K1) | (intros; first | omega | decide) | skip)))
  refine awp_cond (t := _) rfl (fun h9 => by simp at h9; omega) (fun _ => ?_)
  (repeat (first | refine gO rfl ?_ | (refine gR fun K1 hK1 => ?_; simp only [go_sem, ↓reduceIte, reduceCtorEq, nA, nB, nC, nD, nE, nF, hC, encCa, hT, hml, Int.toNat_natCast, gx, encR] <;> and_intros <;> first | (apply hK1; clear hK1 K1) | (intros; first | omega | decide) | skip)))
  simp only [Tryz.results92, go_sem, ↓reduceIte, reduceCtorEq, nA, nB, nC, nD, nE, nF]
  exact ⟨_, _, Weak.refl _, Hp.le.refl _, ef.symm, rfl⟩
def orderL (rule : Int) (L : List Kp) : List Kp := sortI (cmpK rule) (L.filter fun x => !x.2.2.1)
def overL (item : ByteArray) : List Kp → Int → Int
  | [], o => o
  | x :: l, o => overL item l (if x.1 = item then o else o + x.2.1)
def goL (item : ByteArray) : List Kp → Int → List Kp × Int
  | [], o => ([], o)
  | x :: l, o => if o ≤ 0 then ([], o) else if x.1 = item then goL item l o else (x :: (goL item l (o - x.2.1)).1, (goL item l (o - x.2.1)).2)
def goingL (item : ByteArray) (bytes room rule : Int) (L : List Kp) : List Kp × Int := goL item (orderL rule L) (overL item L (bytes - room))
theorem insR_map {α β : Type} (f : α → β) (c : β → β → Int) : ∀ (r : List α) (x : α), (insR (fun a b => c (f a) (f b)) r x).map f = insR c (r.map f) (f x)
  | [], _ => rfl
  | y :: r, x => by
    unfold insR
    simp only [List.map_cons]
    split
    · rw [List.map_cons, insR_map f c r x]
    · simp
theorem foldI_map {α β : Type} (f : α → β) (c : β → β → Int) : ∀ (xs r : List α), (xs.foldl (insR (fun a b => c (f a) (f b))) r).map f = (xs.map f).foldl (insR c) (r.map f)
  | [], _ => rfl
  | x :: xs, r => by rw [List.foldl_cons, foldI_map f c xs, insR_map, List.map_cons, List.foldl_cons]
theorem sortI_map {α β : Type} (f : α → β) (c : β → β → Int) (xs : List α) : (sortI (fun a b => c (f a) (f b)) xs).map f = sortI c (xs.map f) := by
  unfold sortI insS
  rw [List.map_reverse, foldI_map]; rfl
theorem orderF_map (rule : Int) (K : Nat → Kp) (ps : List Nat) : (orderF rule K ps).map K = orderL rule (ps.map K) := by
  unfold orderF orderL
  rw [sortI_map, List.filter_map]; rfl
theorem overF_map (item : ByteArray) (K : Nat → Kp) : ∀ (ps : List Nat) (o : Int), overF item K ps o = overL item (ps.map K) o
  | [], _ => rfl
  | p :: ps, o => by rw [overF, List.map_cons, overL, overF_map item K ps]
theorem goF_map (item : ByteArray) (K : Nat → Kp) : ∀ (ps : List Nat) (o : Int), ((goF item K ps o).1.map K, (goF item K ps o).2) = goL item (ps.map K) o
  | [], _ => rfl
  | p :: ps, o => by
    rw [List.map_cons, goF, goL]
    split
    · rfl
    · split
      · exact goF_map item K ps o
      · have := goF_map item K ps (o - (K p).2.1)
        rw [Prod.ext_iff] at this
        rw [← this.1, ← this.2]; rfl
theorem goingF_map (item : ByteArray) (bytes room rule : Int) (K : Nat → Kp) (ps : List Nat) : ((goingF item bytes room rule K ps).1.map K, (goingF item bytes room rule K ps).2) = goingL item bytes room rule (ps.map K) := by
  unfold goingF goingL
  rw [goF_map, orderF_map, overF_map]
def newK (item : ByteArray) (bytes now : Int) : Kp := (item, bytes, false, now + 1, now + 1, 1)
def askF (t : Int) (x : Kp) : Kp := (x.1, x.2.1, x.2.2.1, x.2.2.2.1, t, x.2.2.2.2.2 + 1)
def setB (b : Int) (x : Kp) : Kp := (x.1, b, x.2.2.1, x.2.2.2.1, x.2.2.2.2.1, x.2.2.2.2.2)
def hasL (item : ByteArray) (L : List Kp) : Bool := L.any fun x => x.1 == item
def atK (item : ByteArray) (f : Kp → Kp) (L : List Kp) : List Kp := L.map fun x => if x.1 = item then f x else x
def leftL (gone L : List Kp) : List Kp := L.filter fun x => !gone.any fun y => y.1 == x.1
def putL (room rule now : Int) (L : List Kp) (item : ByteArray) (bytes : Int) : Option (List Kp × List Kp) :=
  if (goingL item bytes room rule L).2 ≤ 0 then some (if hasL item L then atK item (fun x => askF (now + 1) (setB bytes x)) (leftL (goingL item bytes room rule L).1 L) else leftL (goingL item bytes room rule L).1 L ++ [newK item bytes now], (goingL item bytes room rule L).1) else none
def missL (room rule : Int) : List ByteArray → Int → List Kp → Int → Option Int
  | [], _, _, n => some n
  | s :: l, now, L, n => if hasL s L then missL room rule l (now + 1) (atK s (askF (now + 1)) L) n else
    match putL room rule now L s 1 with
    | some (L', _) => missL room rule l (now + 1) L' (n + 1)
    | none => none
theorem hasL_iff {item : ByteArray} {L : List Kp} : hasL item L = true ↔ ∃ x ∈ L, x.1 = item := by
  unfold hasL
  rw [List.any_eq_true]
  constructor
  · rintro ⟨x, hx, h⟩; exact ⟨x, hx, by rw [ba_beq] at h; simpa using h⟩
  · rintro ⟨x, hx, h⟩; exact ⟨x, hx, by rw [ba_beq]; simpa using h⟩
def KeysOne (L : List Kp) : Prop := L.Pairwise fun x y => x.1 ≠ y.1
theorem keysOne_map {K : Nat → Kp} {ps : List Nat} (h : KeysOne (ps.map K)) {p q : Nat} (hp : p ∈ ps) (hq : q ∈ ps) (e : (K p).1 = (K q).1) : p = q := by
  induction ps with
  | nil => cases hp
  | cons z l ih =>
    rw [List.map_cons] at h
    obtain ⟨h1, h2⟩ := List.pairwise_cons.1 h
    have h1' : ∀ y ∈ l, (K z).1 ≠ (K y).1 := fun y hy => h1 _ (List.mem_map_of_mem hy)
    rcases List.mem_cons.1 hp with ep | hp
    · rcases List.mem_cons.1 hq with eq | hq
      · rw [ep, eq]
      · exact absurd (ep ▸ e) (h1' q hq)
    · rcases List.mem_cons.1 hq with eq | hq
      · exact absurd (eq ▸ e.symm) (h1' p hp)
      · exact ih h2 hp hq
theorem stayF_map {K : Nat → Kp} {gone ps : List Nat} (h : KeysOne (ps.map K)) (hg : ∀ p ∈ gone, p ∈ ps) : (stayF gone ps).map K = leftL (gone.map K) (ps.map K) := by
  unfold stayF leftL
  rw [List.filter_map]
  congr 1
  refine List.filter_congr fun p hp => ?_
  simp only [Function.comp, List.any_map]
  congr 1
  rw [Bool.eq_iff_iff, List.contains_iff_mem, List.any_eq_true]
  constructor
  · intro hm; exact ⟨p, hm, by show ((K p).1 == (K p).1) = true; rw [ba_beq]; simp⟩
  · rintro ⟨q, hq, e⟩
    have e2 : (K q).1 = (K p).1 := by
      have e3 : ((K q).1 == (K p).1) = true := e
      rw [ba_beq] at e3; simpa using e3
    rwa [keysOne_map h (hg q hq) hp e2] at hq
theorem keysOne_filter {L : List Kp} (h : KeysOne L) (p : Kp → Bool) : KeysOne (L.filter p) := h.filter p
theorem atK_map {K : Nat → Kp} {ps : List Nat} {p : Nat} {item : ByteArray} (f : Kp → Kp) (h : KeysOne (ps.map K)) (hp : p ∈ ps) (hk : (K p).1 = item) : ps.map (fun q => if q = p then f (K p) else K q) = atK item f (ps.map K) := by
  unfold atK
  rw [List.map_map]
  refine List.map_congr_left fun q hq => ?_
  simp only [Function.comp]
  by_cases e : q = p
  · subst e; rw [if_pos rfl, if_pos hk]
  · rw [if_neg e, if_neg fun e2 => e (keysOne_map h hq hp (e2.trans hk.symm))]
theorem atK_keys (item : ByteArray) (f : Kp → Kp) (hf : ∀ x, (f x).1 = x.1) (L : List Kp) : (atK item f L).map (·.1) = L.map (·.1) := by
  unfold atK
  rw [List.map_map]
  refine List.map_congr_left fun x _ => ?_
  simp only [Function.comp]
  split <;> simp [hf]
theorem keysOne_iff (L : List Kp) : KeysOne L ↔ (L.map (·.1)).Pairwise (· ≠ ·) := by rw [List.pairwise_map]; rfl
theorem atK_one {item : ByteArray} {f : Kp → Kp} (hf : ∀ x, (f x).1 = x.1) {L : List Kp} (h : KeysOne L) : KeysOne (atK item f L) := by
  rw [keysOne_iff, atK_keys item f hf, ← keysOne_iff]; exact h
theorem leftL_sub {gone L : List Kp} {x : Kp} (h : x ∈ leftL gone L) : x ∈ L := (List.mem_filter.1 h).1
theorem putL_one {room rule now bytes : Int} {L L' g : List Kp} {item : ByteArray} (h : putL room rule now L item bytes = some (L', g)) (h1 : KeysOne L) : KeysOne L' := by
  unfold putL at h
  split at h
  · simp only [Option.some.injEq, Prod.mk.injEq] at h
    obtain ⟨rfl, _⟩ := h
    split
    · exact atK_one (f := fun x => askF (now + 1) (setB bytes x)) (fun _ => rfl) (keysOne_filter h1 _)
    · rename_i hh
      refine List.pairwise_append.2 ⟨keysOne_filter h1 _, by simp, fun x hx y hy => ?_⟩
      simp only [List.mem_singleton] at hy
      subst hy
      intro e
      exact hh (hasL_iff.2 ⟨x, leftL_sub hx, e⟩)
  · cases h
theorem g_ask {x : Kp} {ci p k n : Nat} {room rule now : Int} {h : Hp} (hC : h.H ci = some (.cells (encCa room rule now k n))) (hp : h.H p = some (.cells (encKp x))) (hcp : ci ≠ p)
  (h1 : 0 ≤ now ∧ now ≤ 1000000000) (h2 : 0 ≤ x.2.2.2.2.2 ∧ x.2.2.2.2.2 ≤ 1000000000) :
  ACalls Tryz.prog 93 [.ptr ci 0, .ptr p 0] h (fun r h' => r = .tup [] ∧ h' = ⟨upd (upd h.H ci (some (.cells (encCa room rule (now + 1) k n)))) p (some (.cells (encKp (askF (now + 1) x)))), h.T⟩) := by
 obtain ⟨ke, b, pi, ca, la, ma⟩ := x
 have hpc : p ≠ ci := fun e => hcp e.symm
 refine gE Tryz.func93 rfl (by kernel_rfl) 23 rfl fun c => ?_
 (repeat (first | refine gO rfl ?_ | (refine gR fun K1 hK1 => ?_; simp only [go_sem, ↓reduceIte, reduceCtorEq, nA, nB, nC, nD, nE, nF, hC, hp, encKp, encCa, upd_same, upd_other _ _ hpc, upd_other _ _ hcp] <;> and_intros <;> first | (apply hK1; clear hK1 K1) | (intros; first | omega | decide | (simp_all <;> omega)) | skip)))
 simp only [Tryz.results93, go_sem, ↓reduceIte, reduceCtorEq, nA, nB, nC, nD, nE, nF]
 exact ⟨_, _, Weak.refl _, Hp.le.refl _, rfl, rfl⟩
theorem idxR_contains (p : Nat) (ps : List Nat) : decide (0 ≤ idxR (fun q => p == q) ps) = ps.contains p := by
 rcases idxR_cases (fun q => p == q) ps with ⟨hno, e⟩ | ⟨j, hj, e, hp, _⟩
 ·rw [e]
  cases hc : ps.contains p with
  | false => rfl
  | true => have := hno p (List.contains_iff_mem.1 hc); simp at this
 ·rw [e]
  have hm : ps.contains p = true := by
   rw [List.contains_iff_mem]
   have e1 : p = ps.getD j default := eq_of_beq hp
   rw [e1, List.getD_eq_getElem?_getD, List.getElem?_eq_getElem hj]
   exact List.getElem_mem _
  rw [hm]; simp
theorem g_indexK {K : Nat → Kp} (p k : Nat) (ps : List Nat) (h : Hp) (hp : h.H p = some (.cells (encKp (K p)))) (hK : CacheH h K ps) (hl : ps.length ≤ 100000) :
  ACalls Tryz.prog 149 [.row 1 (ps.map encR) (some k), .ptr p 0] h (fun r h' => r = .v (.int .i64 (idxR (fun q => p == q) ps)) ∧ h' = h) := by
 have hml : (ps.map encR).length = ps.length := List.length_map _
 refine gE Tryz.func149 rfl (by kernel_rfl) 17 rfl fun c => ?_
 (repeat (first | refine gO rfl ?_ | (refine gM zM27 fun K1 hK1 => ?_; simp only [go_sem, ↓reduceIte, reduceCtorEq, nA, nB, nC, nD, nE, nF] <;> and_intros <;> first | (apply hK1; clear hK1 K1) | (intros; first | omega | decide | (simp_all <;> omega)) | skip)))
 refine awp_loopC (rl false [0, 2, 5, 2, 10]) 0 (fun g s => ∃ j : Nat, g + j = ps.length ∧ (∀ i, i < j → (p == ps.getD i default) = false) ∧
  s = ⟨((.row 1 (ps.map encR) (some k)) :: (.ptr p 0) :: (jnk 5 ((.v (.int .i64 ps.length)) :: (.v (.int .i64 j)) :: (jnk 10 [])))), [], h⟩) ps.length ⟨0, by omega, fun i hi => by omega, by rw [← hml]; rfl⟩ ?_
 rintro g _ ⟨j, hj, hn, rfl⟩
 (repeat (first | refine gO rfl ?_ | (refine gM zM27 fun K1 hK1 => ?_; simp only [go_sem, ↓reduceIte, reduceCtorEq, nA, nB, nC, nD, nE, nF] <;> and_intros <;> first | (apply hK1; clear hK1 K1) | (intros; first | omega | decide) | skip)))
 refine awp_cond (t := _) rfl (fun h1 => ?_) (fun h1 => ?_)
 ·simp only [decide_eq_true_eq] at h1
  have hjl : j < ps.length := by omega
  have gx : (ps.map encR).getD j [] = encR (ps.getD j default) := getD_enc encR ps j default hjl
  obtain ⟨q, hq⟩ : ∃ q, ps.getD j default = q := ⟨_, rfl⟩
  have hhq : h.H q = some (.cells (encKp (K q))) := hK q (by rw [← hq, List.getD_eq_getElem?_getD, List.getElem?_eq_getElem hjl]; exact List.getElem_mem _)
  rw [hq] at gx
  (repeat (first | refine gO rfl ?_ | (refine gM zM27 fun K1 hK1 => ?_; simp only [go_sem, ↓reduceIte, reduceCtorEq, nA, nB, nC, nD, nE, nF, hml, Int.toNat_natCast, gx, encR, hp, hhq] <;> and_intros <;> first | (apply hK1; clear hK1 K1) | (intros; first | omega | decide) | skip)))
  cases hb : (p == q) with
  | true =>
   refine awp_cond (t := _) rfl (fun _ => ?_) (fun h9 => by cases h9)
   (repeat (first | refine gO rfl ?_ | (refine gM zM27 fun K1 hK1 => ?_; simp only [go_sem, ↓reduceIte, reduceCtorEq, nA, nB, nC, nD, nE, nF] <;> and_intros <;> first | (apply hK1; clear hK1 K1) | (intros; first | omega | decide) | skip)))
   simp only [Tryz.results149, go_sem, ↓reduceIte, reduceCtorEq, nA, nB, nC, nD, nE, nF]
   exact ⟨_, _, Weak.refl _, Hp.le.refl _, by rw [idxR_at hjl (by rw [hq]; exact hb) hn], rfl⟩
  | false =>
   refine awp_cond (t := _) rfl (fun h9 => by cases h9) (fun _ => ?_)
   (repeat (first | refine gO rfl ?_ | (refine gM zM27 fun K1 hK1 => ?_; simp only [go_sem, ↓reduceIte, reduceCtorEq, nA, nB, nC, nD, nE, nF] <;> and_intros <;> first | (apply hK1; clear hK1 K1) | (intros; first | omega | decide) | skip)))
   refine ⟨g - 1, by omega, j + 1, by omega, fun i hi => ?_, rfl⟩
   rcases Nat.lt_succ_iff_lt_or_eq.1 hi with h9 | rfl
   ·exact hn i h9
   ·rw [hq]; exact hb
 ·simp only [decide_eq_false_iff_not] at h1
  (repeat (first | refine gO rfl ?_ | (refine gM zM27 fun K1 hK1 => ?_; simp only [go_sem, ↓reduceIte, reduceCtorEq, nA, nB, nC, nD, nE, nF] <;> and_intros <;> first | (apply hK1; clear hK1 K1) | (intros; first | omega | decide) | skip)))
  simp only [Tryz.results149, go_sem, ↓reduceIte, reduceCtorEq, nA, nB, nC, nD, nE, nF]
  exact ⟨_, _, Weak.refl _, Hp.le.refl _, by rw [idxR_no (fun i hi => hn i (by omega))], rfl⟩
theorem g_hasK {K : Nat → Kp} (p k : Nat) (ps : List Nat) (h : Hp) (hp : h.H p = some (.cells (encKp (K p)))) (hK : CacheH h K ps) (hl : ps.length ≤ 100000) :
  ACalls Tryz.prog 124 [.row 1 (ps.map encR) (some k), .ptr p 0] h (fun r h' => r = .v (.bool (ps.contains p)) ∧ h' = h) := by
 have hix := g_indexK p k ps h hp hK hl
 rw [← idxR_contains]
 generalize idxR (fun q => p == q) ps = ix at *
 generalize ps.map encR = rw0 at *
 refine gE Tryz.func124 rfl (by kernel_rfl) 7 rfl fun c => ?_
 (repeat (first | refine gO rfl ?_ | (refine gR fun K1 hK1 => ?_; simp only [go_sem, ↓reduceIte, reduceCtorEq, nA, nB, nC, nD, nE, nF] <;> and_intros <;> first | (apply hK1; clear hK1 K1) | (intros; first | omega | decide | (simp_all <;> omega)) | skip)))
 refine hix.mono ?_; rintro _ hz ⟨rfl, hh⟩; apply hK1; clear hK1 K1; rw [hh]; clear hh hz
 (repeat (first | refine gO rfl ?_ | (refine gR fun K1 hK1 => ?_; simp only [go_sem, ↓reduceIte, reduceCtorEq, nA, nB, nC, nD, nE, nF] <;> and_intros <;> first | (apply hK1; clear hK1 K1) | (intros; first | omega | decide) | skip)))
 simp only [Tryz.results124, go_sem, ↓reduceIte, reduceCtorEq, nA, nB, nC, nD, nE, nF]
 exact ⟨_, _, Weak.refl _, Hp.le.refl _, rfl, rfl⟩
theorem g_put1 {K : Nat → Kp} (p k g : Nat) (ps : List Nat) (h : Hp) (hg : h.H g = some (.cells [.row 1 (ps.map encR) (some k)])) (hp : h.H p = some (.cells (encKp (K p)))) (hK : CacheH h K ps) (hl : ps.length ≤ 100000) :
  ACalls Tryz.prog 123 ([.ptr p 0] ++ [.ptr g 0]) h (fun r h' => r = .v (.bool (ps.contains p)) ∧ h' = h) := by
 have hix := g_hasK p k ps h hp hK hl
 generalize ps.contains p = ix at *
 generalize ps.map encR = rw0 at *
 refine gE Tryz.func123 rfl (by kernel_rfl) 5 rfl fun c => ?_
 (repeat (first | refine gO rfl ?_ | (refine gR fun K1 hK1 => ?_; simp only [go_sem, ↓reduceIte, reduceCtorEq, nA, nB, nC, nD, nE, nF, hg] <;> and_intros <;> first | (apply hK1; clear hK1 K1) | (intros; first | omega | decide | (simp_all <;> omega)) | skip)))
 refine hix.mono ?_; rintro _ hz ⟨rfl, hh⟩; apply hK1; clear hK1 K1; rw [hh]; clear hh hz
 (repeat (first | refine gO rfl ?_ | (refine gR fun K1 hK1 => ?_; simp only [go_sem, ↓reduceIte, reduceCtorEq, nA, nB, nC, nD, nE, nF] <;> and_intros <;> first | (apply hK1; clear hK1 K1) | (intros; first | omega | decide) | skip)))
 simp only [Tryz.results123, go_sem, ↓reduceIte, reduceCtorEq, nA, nB, nC, nD, nE, nF]
 exact ⟨_, _, Weak.refl _, Hp.le.refl _, rfl, rfl⟩
theorem g_nan (x : Int) (h : Hp) : ACalls Tryz.prog 157 [.v (.int .i64 x)] h (fun r h' => r = .v (.bool false) ∧ h' = h) := by
 refine gE Tryz.func157 rfl (by kernel_rfl) 5 rfl fun c => ?_
 (repeat (first | refine gO rfl ?_ | (refine gR fun K1 hK1 => ?_; simp only [go_sem, ↓reduceIte, reduceCtorEq, nA, nB, nC, nD, nE, nF] <;> and_intros <;> first | (apply hK1; clear hK1 K1) | (intros; first | omega | decide | (simp_all <;> omega)) | skip)))
 simp only [Tryz.results157, go_sem, ↓reduceIte, reduceCtorEq, nA, nB, nC, nD, nE, nF]
 exact ⟨_, _, Weak.refl _, Hp.le.refl _, by simp, rfl⟩
theorem g_cmpI (x y : Int) (h : Hp) : ACalls Tryz.prog 135 [.v (.int .i64 x), .v (.int .i64 y)] h (fun r h' => r = .v (.int .i64 (cmpI x y)) ∧ h' = h) := by
 have n1 := g_nan x h
 have n2 := g_nan y h
 refine gE Tryz.func135 rfl (by kernel_rfl) 18 rfl fun c => ?_
 (repeat (first | refine gO rfl ?_ | (refine gR fun K1 hK1 => ?_; simp only [go_sem, ↓reduceIte, reduceCtorEq, nA, nB, nC, nD, nE, nF] <;> and_intros <;> first | (apply hK1; clear hK1 K1) | (intros; first | omega | decide | (simp_all <;> omega)) | skip)))
 refine n1.mono ?_; rintro _ hz ⟨rfl, hh⟩; apply hK1; clear hK1 K1; rw [hh]; clear hh hz
 (repeat (first | refine gO rfl ?_ | (refine gR fun K1 hK1 => ?_; simp only [go_sem, ↓reduceIte, reduceCtorEq, nA, nB, nC, nD, nE, nF] <;> and_intros <;> first | (apply hK1; clear hK1 K1) | (intros; first | omega | decide) | skip)))
 refine n2.mono ?_; rintro _ hz ⟨rfl, hh⟩; apply hK1; clear hK1 K1; rw [hh]; clear hh hz
 (repeat (first | refine gO rfl ?_ | (refine gR fun K1 hK1 => ?_; simp only [go_sem, ↓reduceIte, reduceCtorEq, nA, nB, nC, nD, nE, nF] <;> and_intros <;> first | (apply hK1; clear hK1 K1) | (intros; first | omega | decide) | skip)))
 refine awp_cond (t := _) rfl (fun h9 => by cases h9) (fun _ => ?_)
 (repeat (first | refine gO rfl ?_ | (refine gR fun K1 hK1 => ?_; simp only [go_sem, ↓reduceIte, reduceCtorEq, nA, nB, nC, nD, nE, nF] <;> and_intros <;> first | (apply hK1; clear hK1 K1) | (intros; first | omega | decide) | skip)))
 refine awp_cond (t := _) rfl (fun h9 => by cases h9) (fun _ => ?_)
 (repeat (first | refine gO rfl ?_ | (refine gR fun K1 hK1 => ?_; simp only [go_sem, ↓reduceIte, reduceCtorEq, nA, nB, nC, nD, nE, nF] <;> and_intros <;> first | (apply hK1; clear hK1 K1) | (intros; first | omega | decide) | skip)))
 refine awp_cond (t := _) rfl (fun h1 => ?_) (fun h1 => ?_)
 ·simp only [decide_eq_true_eq] at h1
  (repeat (first | refine gO rfl ?_ | (refine gR fun K1 hK1 => ?_; simp only [go_sem, ↓reduceIte, reduceCtorEq, nA, nB, nC, nD, nE, nF] <;> and_intros <;> first | (apply hK1; clear hK1 K1) | (intros; first | omega | decide) | skip)))
  simp only [Tryz.results135, go_sem, ↓reduceIte, reduceCtorEq, nA, nB, nC, nD, nE, nF]
  exact ⟨_, _, Weak.refl _, Hp.le.refl _, by rw [cmpI, if_pos h1], rfl⟩
 ·simp only [decide_eq_false_iff_not] at h1
  (repeat (first | refine gO rfl ?_ | (refine gR fun K1 hK1 => ?_; simp only [go_sem, ↓reduceIte, reduceCtorEq, nA, nB, nC, nD, nE, nF] <;> and_intros <;> first | (apply hK1; clear hK1 K1) | (intros; first | omega | decide) | skip)))
  refine awp_cond (t := _) rfl (fun h2 => ?_) (fun h2 => ?_)
  ·simp only [decide_eq_true_eq] at h2
   (repeat (first | refine gO rfl ?_ | (refine gR fun K1 hK1 => ?_; simp only [go_sem, ↓reduceIte, reduceCtorEq, nA, nB, nC, nD, nE, nF] <;> and_intros <;> first | (apply hK1; clear hK1 K1) | (intros; first | omega | decide) | skip)))
   simp only [Tryz.results135, go_sem, ↓reduceIte, reduceCtorEq, nA, nB, nC, nD, nE, nF]
   exact ⟨_, _, Weak.refl _, Hp.le.refl _, by rw [cmpI, if_neg h1, if_pos (by omega)], rfl⟩
  ·simp only [decide_eq_false_iff_not] at h2
   (repeat (first | refine gO rfl ?_ | (refine gR fun K1 hK1 => ?_; simp only [go_sem, ↓reduceIte, reduceCtorEq, nA, nB, nC, nD, nE, nF] <;> and_intros <;> first | (apply hK1; clear hK1 K1) | (intros; first | omega | decide) | skip)))
   simp only [Tryz.results135, go_sem, ↓reduceIte, reduceCtorEq, nA, nB, nC, nD, nE, nF]
   exact ⟨_, _, Weak.refl _, Hp.le.refl _, by rw [cmpI, if_neg h1, if_neg (by omega)], rfl⟩
theorem g_order1 {x : Kp} {p : Nat} {h : Hp} (hp : h.H p = some (.cells (encKp x))) :
  ACalls Tryz.prog 181 ([.ptr p 0] ++ []) h (fun r h' => r = .v (.bool x.2.2.1) ∧ h' = h) := by
 obtain ⟨k, b, pi, ca, la, ma⟩ := x
 refine gE Tryz.func181 rfl (by kernel_rfl) 6 rfl fun c => ?_
 (repeat (first | refine gO rfl ?_ | (refine gR fun K1 hK1 => ?_; simp only [go_sem, ↓reduceIte, reduceCtorEq, nA, nB, nC, nD, nE, nF, hp, encKp] <;> and_intros <;> first | (apply hK1; clear hK1 K1) | (intros; first | omega | decide | (simp_all <;> omega)) | skip)))
 simp only [Tryz.results181, go_sem, ↓reduceIte, reduceCtorEq, nA, nB, nC, nD, nE, nF]
 exact ⟨_, _, Weak.refl _, Hp.le.refl _, rfl, rfl⟩
theorem g_cloneK (k : Nat) (ps : List Nat) (h : Hp) (hT : h.T k = some (.cont 1 (ps.map encR))) (hl : ps.length ≤ 100000) :
  ACalls Tryz.prog 180 [.arr 1 k ps.length] h (fun r h' => ∃ q, r = .arr 1 q ps.length ∧ h.T q = none ∧ h' = ⟨h.H, upd h.T q (some (.cont 1 (ps.map encR)))⟩) := by
 have hml : (ps.map encR).length = ps.length := List.length_map _
 refine gE Tryz.func180 rfl (by kernel_rfl) 7 rfl fun c => ?_
 (repeat (first | refine gO rfl ?_ | (refine gM zM28 fun K1 hK1 => ?_; simp only [go_sem, ↓reduceIte, reduceCtorEq, nA, nB, nC, nD, nE, nF] <;> and_intros <;> first | (apply hK1; clear hK1 K1) | (intros; first | omega | decide | (simp_all <;> omega)) | skip)))
 ·intro h0
  refine hK1 _ ?_; clear hK1 K1
  (repeat (first | refine gO rfl ?_ | (refine gM zM28 fun K1 hK1 => ?_; simp only [go_sem, ↓reduceIte, reduceCtorEq, nA, nB, nC, nD, nE, nF] <;> and_intros <;> first | (apply hK1; clear hK1 K1) | (intros; first | omega | decide) | skip)))
  refine awp_cond (t := _) rfl (fun _ => ?_) (fun h9 => by cases h9)
  (repeat refine gO rfl ?_)
  refine awp_seq ?_
  refine awp_AL ?_
  refine AL.cons rfl (Quiet.aop (q_move (.inr rfl)) ?_)
  refine AL.nil ?_
  refine awp_ownA 2 1 rfl ⟨rfl, rfl⟩ (fun q hq => ?_)
  refine awp_cut (rl false [2, 1, 5]) 0 (?_ : Awp _ _ _ _ ⟨(AV.junk :: AV.junk :: ((.arr 1 q 0) :: (jnk 5 []))), [], ⟨h.H, upd h.T q (some (.cont 1 []))⟩⟩)
  obtain rfl := List.eq_nil_of_length_eq_zero h0
  (repeat (first | refine gO rfl ?_ | (refine gM zM28 fun K1 hK1 => ?_; simp only [go_sem, ↓reduceIte, reduceCtorEq, nA, nB, nC, nD, nE, nF] <;> and_intros <;> first | (apply hK1; clear hK1 K1) | (intros; first | omega | decide) | skip)))
  simp only [Tryz.results180, go_sem, ↓reduceIte, reduceCtorEq, nA, nB, nC, nD, nE, nF]
  exact ⟨_, _, Weak.refl _, Hp.le.refl _, q, rfl, hq, rfl⟩
 ·(repeat (first | refine gO rfl ?_ | (refine gM zM28 fun K1 hK1 => ?_; simp only [go_sem, ↓reduceIte, reduceCtorEq, nA, nB, nC, nD, nE, nF] <;> and_intros <;> first | (apply hK1; clear hK1 K1) | (intros; first | omega | decide) | skip)))
  refine awp_cond (t := _) rfl (fun h9 => by cases h9) (fun _ => ?_)
  (repeat (first | refine gO rfl ?_ | (refine gM zM28 fun K1 hK1 => ?_; simp only [go_sem, ↓reduceIte, reduceCtorEq, nA, nB, nC, nD, nE, nF, hT, hml] <;> and_intros <;> first | (apply hK1; clear hK1 K1) | (intros; first | omega | decide) | skip)))
  intro q hq
  have hqk : k ≠ q := by rintro rfl; rw [hT] at hq; cases hq
  simp only [upd_other _ _ hqk, hT, hml, and_self, if_true]
  refine ⟨⟨trivial, rfl, .inl trivial⟩, ⟨by simp; omega, by simp; omega⟩, hK1 _ ?_⟩; clear hK1 K1
  (repeat (first | refine gO rfl ?_ | (refine gM zM28 fun K1 hK1 => ?_; simp only [go_sem, ↓reduceIte, reduceCtorEq, nA, nB, nC, nD, nE, nF] <;> and_intros <;> first | (apply hK1; clear hK1 K1) | (intros; first | omega | decide) | skip)))
  simp only [Tryz.results180, go_sem, ↓reduceIte, reduceCtorEq, nA, nB, nC, nD, nE, nF]
  exact ⟨_, _, Weak.refl _, Hp.le.refl _, q, rfl, hq, rfl⟩
abbrev zPQE : List Nat := [0, 1, 2, 3, 4, 5, 6, 7]
abbrev zPQP : List (Nat × List Nat × List Nat) := [(8, [], [9])]
abbrev zPRE : List Nat := [0, 1, 2, 3, 4, 5, 6, 7]
abbrev zPRP : List (Nat × List Nat × List Nat) := [(8, [], [9])]
abbrev zPSE : List Nat := [0, 1, 2, 3, 4, 5, 6, 7]
abbrev zPSP : List (Nat × List Nat × List Nat) := [(8, [], [9])]
abbrev zPTE : List Nat := [0, 1, 2, 3, 4, 5, 6, 7, 8]
abbrev zPTP : List (Nat × List Nat × List Nat) := [(9, [], [10]), (11, [], [12])]
attribute [go_sem] zPQE zPQP zPRE zPRP zPSE zPSP zPTE zPTP
def encJ (x : Int) : List AV := [.v (.int .i64 x)]
def orJ : List Int → Int
 | [] => 0
 | x :: l => if x = 0 then orJ l else x
theorem orJ_at (l : List Int) (j : Nat) (h : j < l.length) (h0 : ∀ i, i < j → l.getD i 0 = 0) (hn : l.getD j 0 ≠ 0) : orJ l = l.getD j 0 := by
 induction l generalizing j with
 | nil => simp at h
 | cons x l ih =>
  cases j with
  | zero => rw [orJ, if_neg (by simpa using hn)]; rfl
  | succ j =>
   have hx := h0 0 (by omega)
   simp only [List.getD_cons_zero] at hx
   rw [orJ, if_pos hx, List.getD_cons_succ]
   exact ih j (by simpa using h) (fun i hi => by simpa using h0 (i + 1) (by omega)) (by simpa using hn)
theorem orJ_zero (l : List Int) (h : ∀ i, i < l.length → l.getD i 0 = 0) : orJ l = 0 := by
 induction l with
 | nil => rfl
 | cons x l ih =>
  have hx := h 0 (by simp)
  simp only [List.getD_cons_zero] at hx
  rw [orJ, if_pos hx]
  exact ih fun i hi => by simpa using h (i + 1) (by simpa using hi)
theorem g_orK (l : List Int) (h : Hp) (hl : l.length ≤ 1000) : ACalls Tryz.prog 134 [.row 1 (l.map encJ) none] h (fun r h' => r = .v (.int .i64 (orJ l)) ∧ h' = h) := by
 refine gE Tryz.func134 rfl (by kernel_rfl) 17 rfl fun c => ?_
 (repeat (first | refine gO rfl ?_ | (refine gR fun K1 hK1 => ?_; simp only [go_sem, ↓reduceIte, reduceCtorEq, nA, nB, nC, nD, nE, nF] <;> and_intros <;> first | (apply hK1; clear hK1 K1) | (intros; first | omega | decide | (simp_all <;> omega)) | skip)))
 refine awp_loopC (rl false [3, 1, 2, 3, 9]) 0 (fun g s => ∃ j : Nat, g + j = l.length ∧ (∀ i, i < j → l.getD i 0 = 0) ∧
  s = ⟨((jnk 3 ((.v (.int .i64 0)) :: AV.junk :: AV.junk :: ((.row 1 (l.map encJ) none) :: (.v (.int .i64 l.length)) :: (.v (.int .i64 j)) :: (jnk 9 []))))), [], h⟩) l.length ⟨0, by omega, by omega, rfl⟩ ?_
 rintro g _ ⟨j, hj, h0, rfl⟩
 (repeat (first | refine gO rfl ?_ | (refine gR fun K1 hK1 => ?_; simp only [go_sem, ↓reduceIte, reduceCtorEq, nA, nB, nC, nD, nE, nF] <;> and_intros <;> first | (apply hK1; clear hK1 K1) | (intros; first | omega | decide | (simp_all <;> omega)) | skip)))
 refine awp_cond (t := _) rfl (fun h3 => ?_) (fun h3 => ?_)
 ·simp only [decide_eq_true_eq] at h3
  have hjl : j < l.length := by omega
  have hgx : (l.map encJ).getD j [] = [.v (.int .i64 (l.getD j 0))] := getD_enc encJ l j 0 hjl
  have hat := orJ_at l j hjl h0
  obtain ⟨x, hx⟩ : ∃ x, x = l.getD j 0 := ⟨_, rfl⟩
  rw [← hx] at hgx hat
  (repeat (first | refine gO rfl ?_ | (refine gR fun K1 hK1 => ?_; simp only [go_sem, ↓reduceIte, reduceCtorEq, nA, nB, nC, nD, nE, nF, Int.toNat_natCast, hgx] <;> and_intros <;> first | (apply hK1; clear hK1 K1) | (intros; first | omega | decide | (simp_all <;> omega)) | skip)))
  refine awp_cond (t := _) rfl (fun h4 => ?_) (fun h4 => ?_)
  ·have h4' : x ≠ 0 := by simpa using h4
   (repeat (first | refine gO rfl ?_ | (refine gR fun K1 hK1 => ?_; simp only [go_sem, ↓reduceIte, reduceCtorEq, nA, nB, nC, nD, nE, nF] <;> and_intros <;> first | (apply hK1; clear hK1 K1) | (intros; first | omega | decide | (simp_all <;> omega)) | skip)))
   simp only [Tryz.results134, go_sem, ↓reduceIte, reduceCtorEq, nA, nB, nC, nD, nE, nF]
   exact ⟨_, _, Weak.refl _, Hp.le.refl _, by rw [hat h4'], rfl⟩
  ·have h4' : x = 0 := by simpa using h4
   (repeat (first | refine gO rfl ?_ | (refine gR fun K1 hK1 => ?_; simp only [go_sem, ↓reduceIte, reduceCtorEq, nA, nB, nC, nD, nE, nF] <;> and_intros <;> first | (apply hK1; clear hK1 K1) | (intros; first | omega | decide | (simp_all <;> omega)) | skip)))
   exact ⟨g - 1, by omega, j + 1, by omega, fun i hi => by
    by_cases e : i = j
    ·rw [e, ← hx]; exact h4'
    ·exact h0 i (by omega), rfl⟩
 ·simp only [decide_eq_false_iff_not] at h3
  have hjl : j = l.length := by omega
  subst hjl
  (repeat (first | refine gO rfl ?_ | (refine gR fun K1 hK1 => ?_; simp only [go_sem, ↓reduceIte, reduceCtorEq, nA, nB, nC, nD, nE, nF] <;> and_intros <;> first | (apply hK1; clear hK1 K1) | (intros; first | omega | decide | (simp_all <;> omega)) | skip)))
  simp only [Tryz.results134, go_sem, ↓reduceIte, reduceCtorEq, nA, nB, nC, nD, nE, nF]
  exact ⟨_, _, Weak.refl _, Hp.le.refl _, by rw [orJ_zero l h0], rfl⟩
theorem g_or2 (x y : Int) (h : Hp) : ACalls Tryz.prog 134 [.row 1 [[.v (.int .i64 x)], [.v (.int .i64 y)]] none] h (fun r h' => r = .v (.int .i64 (if x = 0 then y else x)) ∧ h' = h) := by
 refine (g_orK [x, y] h (by simp)).mono ?_
 rintro _ _ ⟨rfl, rfl⟩
 refine ⟨?_, rfl⟩
 by_cases e : x = 0
 ·rw [orJ, if_pos e, if_pos e, orJ]
  by_cases e2 : y = 0
  ·rw [if_pos e2, orJ, e2]
  ·rw [if_neg e2]
 ·rw [orJ, if_neg e, if_neg e]
theorem g_compK {ci k n a b : Nat} {room rule now : Int} {x y : Kp} {h : Hp} (hC : h.H ci = some (.cells (encCa room rule now k n))) (ha : h.H a = some (.cells (encKp x))) (hb : h.H b = some (.cells (encKp y))) :
  ACalls Tryz.prog 183 ([.ptr ci 0] ++ [.ptr a 0, .ptr b 0]) h (fun r h' => r = .v (.int .i64 (cmpK rule x y)) ∧ h' = h) := by
 obtain ⟨ke, by1, pi, ca, la, ma⟩ := x
 obtain ⟨ke', by2, pi', ca', la', ma'⟩ := y
 have c1 := fun x y => g_cmpI x y h
 have c2 := fun x y => g_or2 x y h
 refine gE Tryz.func183 rfl (by kernel_rfl) 54 rfl fun c => ?_
 (repeat (first | refine gO rfl ?_ | ((first | refine gR ?_ | (with_reducible refine wM ?_ ?_) | ((with_reducible refine xR ?_); refine uE 4 zM26 zPQE zPQP 57 rfl (by kernel_rfl) ?_) | ((with_reducible refine xR ?_); refine uE 6 zM26 zPRE zPRP 57 rfl (by kernel_rfl) ?_) | ((with_reducible refine xR ?_); refine uE 8 zM26 zPSE zPSP 57 rfl (by kernel_rfl) ?_) | ((with_reducible refine xS ?_); refine uD 9 zM26 zPTE zPTP 57 rfl (by kernel_rfl) ?_)) <;> ((try with_reducible intro K1 hK1); simp only [go_sem, ↓reduceIte, reduceCtorEq, nA, nB, nC, nD, nE, nF, hC, encCa] <;> and_intros <;> first | (apply hK1; clear hK1 K1) | (intros; first | omega | decide | (simp_all <;> omega)) | skip))))
 by_cases r2 : rule = 2
 ·subst r2
  refine awp_cond (t := _) rfl (fun _ => ?_) (fun h9 => by simp at h9)
  (repeat (first | refine gO rfl ?_ | ((first | refine gR ?_ | (with_reducible refine wM ?_ ?_) | ((with_reducible refine xR ?_); refine uE 4 zM26 zPQE zPQP 57 rfl (by kernel_rfl) ?_) | ((with_reducible refine xR ?_); refine uE 6 zM26 zPRE zPRP 57 rfl (by kernel_rfl) ?_) | ((with_reducible refine xR ?_); refine uE 8 zM26 zPSE zPSP 57 rfl (by kernel_rfl) ?_) | ((with_reducible refine xS ?_); refine uD 9 zM26 zPTE zPTP 57 rfl (by kernel_rfl) ?_)) <;> ((try with_reducible intro K1 hK1); simp only [go_sem, ↓reduceIte, reduceCtorEq, nA, nB, nC, nD, nE, nF, ha, hb, encKp] <;> and_intros <;> first | (apply hK1; clear hK1 K1) | (intros; first | omega | decide) | skip))))
  refine (c1 _ _).mono ?_; rintro _ hz ⟨rfl, hh⟩; apply hK1; clear hK1 K1; rw [hh]; clear hh hz
  (repeat (first | refine gO rfl ?_ | ((first | refine gR ?_ | (with_reducible refine wM ?_ ?_) | ((with_reducible refine xR ?_); refine uE 4 zM26 zPQE zPQP 57 rfl (by kernel_rfl) ?_) | ((with_reducible refine xR ?_); refine uE 6 zM26 zPRE zPRP 57 rfl (by kernel_rfl) ?_) | ((with_reducible refine xR ?_); refine uE 8 zM26 zPSE zPSP 57 rfl (by kernel_rfl) ?_) | ((with_reducible refine xS ?_); refine uD 9 zM26 zPTE zPTP 57 rfl (by kernel_rfl) ?_)) <;> ((try with_reducible intro K1 hK1); simp only [go_sem, ↓reduceIte, reduceCtorEq, nA, nB, nC, nD, nE, nF, ha, hb, encKp] <;> and_intros <;> first | (apply hK1; clear hK1 K1) | (intros; first | omega | decide) | skip))))
  refine (c1 _ _).mono ?_; rintro _ hz ⟨rfl, hh⟩; apply hK1; clear hK1 K1; rw [hh]; clear hh hz
  (repeat (first | refine gO rfl ?_ | ((first | refine gR ?_ | (with_reducible refine wM ?_ ?_) | ((with_reducible refine xR ?_); refine uE 4 zM26 zPQE zPQP 57 rfl (by kernel_rfl) ?_) | ((with_reducible refine xR ?_); refine uE 6 zM26 zPRE zPRP 57 rfl (by kernel_rfl) ?_) | ((with_reducible refine xR ?_); refine uE 8 zM26 zPSE zPSP 57 rfl (by kernel_rfl) ?_) | ((with_reducible refine xS ?_); refine uD 9 zM26 zPTE zPTP 57 rfl (by kernel_rfl) ?_)) <;> ((try with_reducible intro K1 hK1); simp only [go_sem, ↓reduceIte, reduceCtorEq, nA, nB, nC, nD, nE, nF] <;> and_intros <;> first | (apply hK1; clear hK1 K1) | (intros; first | omega | decide) | skip))))
  refine (c2 _ _).mono ?_; rintro _ hz ⟨rfl, hh⟩; apply hK1; clear hK1 K1; rw [hh]; clear hh hz
  (repeat (first | refine gO rfl ?_ | ((first | refine gR ?_ | (with_reducible refine wM ?_ ?_) | ((with_reducible refine xR ?_); refine uE 4 zM26 zPQE zPQP 57 rfl (by kernel_rfl) ?_) | ((with_reducible refine xR ?_); refine uE 6 zM26 zPRE zPRP 57 rfl (by kernel_rfl) ?_) | ((with_reducible refine xR ?_); refine uE 8 zM26 zPSE zPSP 57 rfl (by kernel_rfl) ?_) | ((with_reducible refine xS ?_); refine uD 9 zM26 zPTE zPTP 57 rfl (by kernel_rfl) ?_)) <;> ((try with_reducible intro K1 hK1); simp only [go_sem, ↓reduceIte, reduceCtorEq, nA, nB, nC, nD, nE, nF] <;> and_intros <;> first | (apply hK1; clear hK1 K1) | (intros; first | omega | decide) | skip))))
  simp only [Tryz.results183, go_sem, ↓reduceIte, reduceCtorEq, nA, nB, nC, nD, nE, nF]
  exact ⟨_, _, Weak.refl _, Hp.le.refl _, by rw [cmpK, if_pos rfl], rfl⟩
 ·refine awp_cond (t := _) rfl (fun h9 => absurd (by simpa using h9) r2) (fun _ => ?_)
  (repeat (first | refine gO rfl ?_ | ((first | refine gR ?_ | (with_reducible refine wM ?_ ?_) | ((with_reducible refine xR ?_); refine uE 4 zM26 zPQE zPQP 57 rfl (by kernel_rfl) ?_) | ((with_reducible refine xR ?_); refine uE 6 zM26 zPRE zPRP 57 rfl (by kernel_rfl) ?_) | ((with_reducible refine xR ?_); refine uE 8 zM26 zPSE zPSP 57 rfl (by kernel_rfl) ?_) | ((with_reducible refine xS ?_); refine uD 9 zM26 zPTE zPTP 57 rfl (by kernel_rfl) ?_)) <;> ((try with_reducible intro K1 hK1); simp only [go_sem, ↓reduceIte, reduceCtorEq, nA, nB, nC, nD, nE, nF] <;> and_intros <;> first | (apply hK1; clear hK1 K1) | (intros; first | omega | decide) | skip))))
  by_cases r3 : rule = 3
  ·subst r3
   refine awp_cond (t := _) rfl (fun _ => ?_) (fun h9 => by simp at h9)
   (repeat (first | refine gO rfl ?_ | ((first | refine gR ?_ | (with_reducible refine wM ?_ ?_) | ((with_reducible refine xR ?_); refine uE 4 zM26 zPQE zPQP 57 rfl (by kernel_rfl) ?_) | ((with_reducible refine xR ?_); refine uE 6 zM26 zPRE zPRP 57 rfl (by kernel_rfl) ?_) | ((with_reducible refine xR ?_); refine uE 8 zM26 zPSE zPSP 57 rfl (by kernel_rfl) ?_) | ((with_reducible refine xS ?_); refine uD 9 zM26 zPTE zPTP 57 rfl (by kernel_rfl) ?_)) <;> ((try with_reducible intro K1 hK1); simp only [go_sem, ↓reduceIte, reduceCtorEq, nA, nB, nC, nD, nE, nF, ha, hb, encKp] <;> and_intros <;> first | (apply hK1; clear hK1 K1) | (intros; first | omega | decide) | skip))))
   refine (c1 _ _).mono ?_; rintro _ hz ⟨rfl, hh⟩; apply hK1; clear hK1 K1; rw [hh]; clear hh hz
   (repeat (first | refine gO rfl ?_ | ((first | refine gR ?_ | (with_reducible refine wM ?_ ?_) | ((with_reducible refine xR ?_); refine uE 4 zM26 zPQE zPQP 57 rfl (by kernel_rfl) ?_) | ((with_reducible refine xR ?_); refine uE 6 zM26 zPRE zPRP 57 rfl (by kernel_rfl) ?_) | ((with_reducible refine xR ?_); refine uE 8 zM26 zPSE zPSP 57 rfl (by kernel_rfl) ?_) | ((with_reducible refine xS ?_); refine uD 9 zM26 zPTE zPTP 57 rfl (by kernel_rfl) ?_)) <;> ((try with_reducible intro K1 hK1); simp only [go_sem, ↓reduceIte, reduceCtorEq, nA, nB, nC, nD, nE, nF, ha, hb, encKp] <;> and_intros <;> first | (apply hK1; clear hK1 K1) | (intros; first | omega | decide) | skip))))
   refine (c1 _ _).mono ?_; rintro _ hz ⟨rfl, hh⟩; apply hK1; clear hK1 K1; rw [hh]; clear hh hz
   (repeat (first | refine gO rfl ?_ | ((first | refine gR ?_ | (with_reducible refine wM ?_ ?_) | ((with_reducible refine xR ?_); refine uE 4 zM26 zPQE zPQP 57 rfl (by kernel_rfl) ?_) | ((with_reducible refine xR ?_); refine uE 6 zM26 zPRE zPRP 57 rfl (by kernel_rfl) ?_) | ((with_reducible refine xR ?_); refine uE 8 zM26 zPSE zPSP 57 rfl (by kernel_rfl) ?_) | ((with_reducible refine xS ?_); refine uD 9 zM26 zPTE zPTP 57 rfl (by kernel_rfl) ?_)) <;> ((try with_reducible intro K1 hK1); simp only [go_sem, ↓reduceIte, reduceCtorEq, nA, nB, nC, nD, nE, nF] <;> and_intros <;> first | (apply hK1; clear hK1 K1) | (intros; first | omega | decide) | skip))))
   refine (c2 _ _).mono ?_; rintro _ hz ⟨rfl, hh⟩; apply hK1; clear hK1 K1; rw [hh]; clear hh hz
   (repeat (first | refine gO rfl ?_ | ((first | refine gR ?_ | (with_reducible refine wM ?_ ?_) | ((with_reducible refine xR ?_); refine uE 4 zM26 zPQE zPQP 57 rfl (by kernel_rfl) ?_) | ((with_reducible refine xR ?_); refine uE 6 zM26 zPRE zPRP 57 rfl (by kernel_rfl) ?_) | ((with_reducible refine xR ?_); refine uE 8 zM26 zPSE zPSP 57 rfl (by kernel_rfl) ?_) | ((with_reducible refine xS ?_); refine uD 9 zM26 zPTE zPTP 57 rfl (by kernel_rfl) ?_)) <;> ((try with_reducible intro K1 hK1); simp only [go_sem, ↓reduceIte, reduceCtorEq, nA, nB, nC, nD, nE, nF] <;> and_intros <;> first | (apply hK1; clear hK1 K1) | (intros; first | omega | decide) | skip))))
   simp only [Tryz.results183, go_sem, ↓reduceIte, reduceCtorEq, nA, nB, nC, nD, nE, nF]
   exact ⟨_, _, Weak.refl _, Hp.le.refl _, by rw [cmpK, if_neg r2, if_pos rfl], rfl⟩
  ·refine awp_cond (t := _) rfl (fun h9 => absurd (by simpa using h9) r3) (fun _ => ?_)
   (repeat (first | refine gO rfl ?_ | ((first | refine gR ?_ | (with_reducible refine wM ?_ ?_) | ((with_reducible refine xR ?_); refine uE 4 zM26 zPQE zPQP 57 rfl (by kernel_rfl) ?_) | ((with_reducible refine xR ?_); refine uE 6 zM26 zPRE zPRP 57 rfl (by kernel_rfl) ?_) | ((with_reducible refine xR ?_); refine uE 8 zM26 zPSE zPSP 57 rfl (by kernel_rfl) ?_) | ((with_reducible refine xS ?_); refine uD 9 zM26 zPTE zPTP 57 rfl (by kernel_rfl) ?_)) <;> ((try with_reducible intro K1 hK1); simp only [go_sem, ↓reduceIte, reduceCtorEq, nA, nB, nC, nD, nE, nF] <;> and_intros <;> first | (apply hK1; clear hK1 K1) | (intros; first | omega | decide) | skip))))
   by_cases r4 : rule = 4
   ·subst r4
    refine awp_cond (t := _) rfl (fun _ => ?_) (fun h9 => by simp at h9)
    (repeat (first | refine gO rfl ?_ | ((first | refine gR ?_ | (with_reducible refine wM ?_ ?_) | ((with_reducible refine xR ?_); refine uE 4 zM26 zPQE zPQP 57 rfl (by kernel_rfl) ?_) | ((with_reducible refine xR ?_); refine uE 6 zM26 zPRE zPRP 57 rfl (by kernel_rfl) ?_) | ((with_reducible refine xR ?_); refine uE 8 zM26 zPSE zPSP 57 rfl (by kernel_rfl) ?_) | ((with_reducible refine xS ?_); refine uD 9 zM26 zPTE zPTP 57 rfl (by kernel_rfl) ?_)) <;> ((try with_reducible intro K1 hK1); simp only [go_sem, ↓reduceIte, reduceCtorEq, nA, nB, nC, nD, nE, nF, ha, hb, encKp] <;> and_intros <;> first | (apply hK1; clear hK1 K1) | (intros; first | omega | decide) | skip))))
    refine (c1 _ _).mono ?_; rintro _ hz ⟨rfl, hh⟩; apply hK1; clear hK1 K1; rw [hh]; clear hh hz
    (repeat (first | refine gO rfl ?_ | ((first | refine gR ?_ | (with_reducible refine wM ?_ ?_) | ((with_reducible refine xR ?_); refine uE 4 zM26 zPQE zPQP 57 rfl (by kernel_rfl) ?_) | ((with_reducible refine xR ?_); refine uE 6 zM26 zPRE zPRP 57 rfl (by kernel_rfl) ?_) | ((with_reducible refine xR ?_); refine uE 8 zM26 zPSE zPSP 57 rfl (by kernel_rfl) ?_) | ((with_reducible refine xS ?_); refine uD 9 zM26 zPTE zPTP 57 rfl (by kernel_rfl) ?_)) <;> ((try with_reducible intro K1 hK1); simp only [go_sem, ↓reduceIte, reduceCtorEq, nA, nB, nC, nD, nE, nF, ha, hb, encKp] <;> and_intros <;> first | (apply hK1; clear hK1 K1) | (intros; first | omega | decide) | skip))))
    refine (c1 _ _).mono ?_; rintro _ hz ⟨rfl, hh⟩; apply hK1; clear hK1 K1; rw [hh]; clear hh hz
    (repeat (first | refine gO rfl ?_ | ((first | refine gR ?_ | (with_reducible refine wM ?_ ?_) | ((with_reducible refine xR ?_); refine uE 4 zM26 zPQE zPQP 57 rfl (by kernel_rfl) ?_) | ((with_reducible refine xR ?_); refine uE 6 zM26 zPRE zPRP 57 rfl (by kernel_rfl) ?_) | ((with_reducible refine xR ?_); refine uE 8 zM26 zPSE zPSP 57 rfl (by kernel_rfl) ?_) | ((with_reducible refine xS ?_); refine uD 9 zM26 zPTE zPTP 57 rfl (by kernel_rfl) ?_)) <;> ((try with_reducible intro K1 hK1); simp only [go_sem, ↓reduceIte, reduceCtorEq, nA, nB, nC, nD, nE, nF] <;> and_intros <;> first | (apply hK1; clear hK1 K1) | (intros; first | omega | decide) | skip))))
    refine (c2 _ _).mono ?_; rintro _ hz ⟨rfl, hh⟩; apply hK1; clear hK1 K1; rw [hh]; clear hh hz
    (repeat (first | refine gO rfl ?_ | ((first | refine gR ?_ | (with_reducible refine wM ?_ ?_) | ((with_reducible refine xR ?_); refine uE 4 zM26 zPQE zPQP 57 rfl (by kernel_rfl) ?_) | ((with_reducible refine xR ?_); refine uE 6 zM26 zPRE zPRP 57 rfl (by kernel_rfl) ?_) | ((with_reducible refine xR ?_); refine uE 8 zM26 zPSE zPSP 57 rfl (by kernel_rfl) ?_) | ((with_reducible refine xS ?_); refine uD 9 zM26 zPTE zPTP 57 rfl (by kernel_rfl) ?_)) <;> ((try with_reducible intro K1 hK1); simp only [go_sem, ↓reduceIte, reduceCtorEq, nA, nB, nC, nD, nE, nF] <;> and_intros <;> first | (apply hK1; clear hK1 K1) | (intros; first | omega | decide) | skip))))
    simp only [Tryz.results183, go_sem, ↓reduceIte, reduceCtorEq, nA, nB, nC, nD, nE, nF]
    exact ⟨_, _, Weak.refl _, Hp.le.refl _, by rw [cmpK, if_neg r2, if_neg r3, if_pos rfl], rfl⟩
   ·refine awp_cond (t := _) rfl (fun h9 => absurd (by simpa using h9) r4) (fun _ => ?_)
    (repeat (first | refine gO rfl ?_ | ((first | refine gR ?_ | (with_reducible refine wM ?_ ?_) | ((with_reducible refine xR ?_); refine uE 4 zM26 zPQE zPQP 57 rfl (by kernel_rfl) ?_) | ((with_reducible refine xR ?_); refine uE 6 zM26 zPRE zPRP 57 rfl (by kernel_rfl) ?_) | ((with_reducible refine xR ?_); refine uE 8 zM26 zPSE zPSP 57 rfl (by kernel_rfl) ?_) | ((with_reducible refine xS ?_); refine uD 9 zM26 zPTE zPTP 57 rfl (by kernel_rfl) ?_)) <;> ((try with_reducible intro K1 hK1); simp only [go_sem, ↓reduceIte, reduceCtorEq, nA, nB, nC, nD, nE, nF, ha, hb, encKp] <;> and_intros <;> first | (apply hK1; clear hK1 K1) | (intros; first | omega | decide) | skip))))
    refine (c1 _ _).mono ?_; rintro _ hz ⟨rfl, hh⟩; apply hK1; clear hK1 K1; rw [hh]; clear hh hz
    (repeat (first | refine gO rfl ?_ | ((first | refine gR ?_ | (with_reducible refine wM ?_ ?_) | ((with_reducible refine xR ?_); refine uE 4 zM26 zPQE zPQP 57 rfl (by kernel_rfl) ?_) | ((with_reducible refine xR ?_); refine uE 6 zM26 zPRE zPRP 57 rfl (by kernel_rfl) ?_) | ((with_reducible refine xR ?_); refine uE 8 zM26 zPSE zPSP 57 rfl (by kernel_rfl) ?_) | ((with_reducible refine xS ?_); refine uD 9 zM26 zPTE zPTP 57 rfl (by kernel_rfl) ?_)) <;> ((try with_reducible intro K1 hK1); simp only [go_sem, ↓reduceIte, reduceCtorEq, nA, nB, nC, nD, nE, nF] <;> and_intros <;> first | (apply hK1; clear hK1 K1) | (intros; first | omega | decide) | skip))))
    refine (c2 _ _).mono ?_; rintro _ hz ⟨rfl, hh⟩; apply hK1; clear hK1 K1; rw [hh]; clear hh hz
    (repeat (first | refine gO rfl ?_ | ((first | refine gR ?_ | (with_reducible refine wM ?_ ?_) | ((with_reducible refine xR ?_); refine uE 4 zM26 zPQE zPQP 57 rfl (by kernel_rfl) ?_) | ((with_reducible refine xR ?_); refine uE 6 zM26 zPRE zPRP 57 rfl (by kernel_rfl) ?_) | ((with_reducible refine xR ?_); refine uE 8 zM26 zPSE zPSP 57 rfl (by kernel_rfl) ?_) | ((with_reducible refine xS ?_); refine uD 9 zM26 zPTE zPTP 57 rfl (by kernel_rfl) ?_)) <;> ((try with_reducible intro K1 hK1); simp only [go_sem, ↓reduceIte, reduceCtorEq, nA, nB, nC, nD, nE, nF] <;> and_intros <;> first | (apply hK1; clear hK1 K1) | (intros; first | omega | decide) | skip))))
    simp only [Tryz.results183, go_sem, ↓reduceIte, reduceCtorEq, nA, nB, nC, nD, nE, nF]
    exact ⟨_, _, Weak.refl _, Hp.le.refl _, by rw [cmpK, if_neg r2, if_neg r3, if_neg r4, if_pos rfl], rfl⟩
abbrev zPUE : List Nat := [0, 1, 2, 3, 4, 5, 6, 7, 8, 9, 10, 11, 12, 13]
abbrev zPUP : List (Nat × List Nat × List Nat) := [(14, [], [15, 16])]
abbrev zPVE : List Nat := [0, 1, 2, 3, 4, 5, 6, 7, 8, 9, 10, 11, 12, 13, 14]
abbrev zPVP : List (Nat × List Nat × List Nat) := [(15, [], [16]), (17, [], [])]
abbrev zPWE : List Nat := [0, 1, 2, 3, 4, 5, 6, 7, 8, 9, 10, 11, 12]
abbrev zPWP : List (Nat × List Nat × List Nat) := [(13, [], [14, 15, 16])]
attribute [go_sem] zPUE zPUP zPVE zPVP zPWE zPWP
theorem getD_mid {α : Type} (A : List α) (x : α) (B : List α) (d : α) : (A ++ x :: B).getD A.length d = x := by
 rw [List.getD_eq_getElem?_getD, List.getElem?_append_right (Nat.le_refl _), Nat.sub_self]; rfl
theorem set_mid {α : Type} (A : List α) (x y : α) (B : List α) : (A ++ x :: B).set A.length y = A ++ y :: B := by
 rw [List.set_append_right _ _ (Nat.le_refl _), Nat.sub_self]; rfl
theorem g_insK {f : Nat} {caps : List AV} (cf : Nat → Nat → Int) (k : Nat) (xs : List Nat) (h : Hp) (hT : h.T k = some (.cont 1 (xs.map encR))) (hl : xs.length ≤ 1000)
  (hc : ∀ x ∈ xs, ∀ y ∈ xs, ∀ T', ACalls Tryz.prog f (caps ++ [encRV x, encRV y]) ⟨h.H, T'⟩ (fun r h' => r = .v (.int .i64 (cf x y)) ∧ h' = ⟨h.H, T'⟩)) :
  ACalls Tryz.prog 229 [.arr 1 k xs.length, .v (.int .i64 0), .v (.int .i64 xs.length), .bfn f caps] h (fun r h' => r = .tup [] ∧ h' = ⟨h.H, upd h.T k (some (.cont 1 ((sortI cf xs).map encR)))⟩) := by
 refine gE Tryz.func229 rfl (by kernel_rfl) 49 rfl fun c => ?_
 (repeat (first | refine gO rfl ?_ | ((first | refine gR ?_ | (with_reducible refine wM ?_ ?_) | ((with_reducible refine xS ?_); refine uD 4 zM26 zPUE zPUP 53 rfl (by kernel_rfl) ?_) | ((with_reducible refine xR ?_); refine uE 6 zM26 zPVE zPVP 53 rfl (by kernel_rfl) ?_)) <;> ((try with_reducible intro K1 hK1); simp only [go_sem, ↓reduceIte, reduceCtorEq, nA, nB, nC, nD, nE, nF] <;> and_intros <;> first | (apply hK1; clear hK1 K1) | (intros; first | omega | decide | (simp_all <;> omega)) | skip))))
 refine awp_loopC (rl false [0, 4, 4, 1, 44]) 0 (fun g s => ∃ i : Nat, 1 ≤ i ∧ g + i = xs.length + 1 ∧
  s = ⟨((.arr 1 k xs.length) :: (.v (.int .i64 0)) :: (.v (.int .i64 xs.length)) :: (.bfn f caps) :: (jnk 4 ((.v (.int .i64 i)) :: (jnk 44 [])))), [], ⟨h.H, upd h.T k (some (.cont 1 (((insS cf (xs.take i)).reverse ++ xs.drop i).map encR)))⟩⟩) xs.length
  ⟨1, by omega, by omega, ?_⟩ ?_
 ·have e1 : (insS cf (xs.take 1)).reverse ++ xs.drop 1 = xs := by cases xs <;> simp [insS, insR]
  have e2 : upd h.T k (some (TO.cont 1 (xs.map encR))) = h.T := by
   funext q
   by_cases e : q = k
   ·rw [e, upd_same, hT]
   ·rw [upd_other _ _ e]
  rw [e1, e2]; rfl
 rintro g _ ⟨i, hi1, hi, rfl⟩
 (repeat (first | refine gO rfl ?_ | ((first | refine gR ?_ | (with_reducible refine wM ?_ ?_) | ((with_reducible refine xS ?_); refine uD 4 zM26 zPUE zPUP 53 rfl (by kernel_rfl) ?_) | ((with_reducible refine xR ?_); refine uE 6 zM26 zPVE zPVP 53 rfl (by kernel_rfl) ?_)) <;> ((try with_reducible intro K1 hK1); simp only [go_sem, ↓reduceIte, reduceCtorEq, nA, nB, nC, nD, nE, nF] <;> and_intros <;> first | (apply hK1; clear hK1 K1) | (intros; first | omega | decide | (simp_all <;> omega)) | skip))))
 refine awp_cond (t := _) rfl (fun h1 => ?_) (fun h1 => ?_)
 ·simp only [decide_eq_true_eq] at h1
  have hil : i < xs.length := by omega
  have hdr : xs.drop i = xs.getD i default :: xs.drop (i + 1) := drop_at' xs i default hil
  have htk : xs.take (i + 1) = xs.take i ++ [xs.getD i default] := take_at' xs i default hil
  have hxm : xs.getD i default ∈ xs := by
   rw [List.getD_eq_getElem?_getD, List.getElem?_eq_getElem hil]; exact List.getElem_mem _
  have hpl : (insS cf (xs.take i)).length = i := by rw [insS_len, List.length_take]; omega
  have hpm : ∀ z ∈ (insS cf (xs.take i)).reverse, z ∈ xs := fun z hz => List.mem_of_mem_take ((insS_perm cf (xs.take i)).mem_iff.1 (List.mem_reverse.1 hz))
  have hin : insS cf (xs.take (i + 1)) = insR cf (insS cf (xs.take i)) (xs.getD i default) := by rw [htk, insS_snoc]
  rw [hdr]
  generalize xs.getD i default = x at hxm hin ⊢
  generalize insS cf (xs.take i) = R at hpl hpm hin ⊢
  generalize hrs : xs.drop (i + 1) = rest
  clear hdr htk
  (repeat (first | refine gO rfl ?_ | ((first | refine gR ?_ | (with_reducible refine wM ?_ ?_) | ((with_reducible refine xS ?_); refine uD 4 zM26 zPUE zPUP 53 rfl (by kernel_rfl) ?_) | ((with_reducible refine xR ?_); refine uE 6 zM26 zPVE zPVP 53 rfl (by kernel_rfl) ?_)) <;> ((try with_reducible intro K1 hK1); simp only [go_sem, ↓reduceIte, reduceCtorEq, nA, nB, nC, nD, nE, nF] <;> and_intros <;> first | (apply hK1; clear hK1 K1) | (intros; first | omega | decide | (simp_all <;> omega)) | skip))))
  refine awp_loopC (rl false [0, 4, 4, 2, 43]) 0 (fun g2 s => ∃ (A B : List Nat), g2 = A.length ∧ insR cf R x = B.reverse ++ insR cf A.reverse x ∧ A.length + B.length = i ∧ (∀ z ∈ A, z ∈ xs) ∧
   s = ⟨((.arr 1 k xs.length) :: (.v (.int .i64 0)) :: (.v (.int .i64 xs.length)) :: (.bfn f caps) :: (jnk 4 ((.v (.int .i64 i)) :: (.v (.int .i64 A.length)) :: (jnk 43 [])))), [], ⟨h.H, upd h.T k (some (.cont 1 ((A ++ x :: (B ++ rest)).map encR)))⟩⟩) i
   ⟨R.reverse, [], by rw [List.length_reverse, hpl], by rw [List.reverse_reverse]; rfl, by rw [List.length_reverse, hpl]; rfl, hpm, by rw [List.length_reverse, hpl]; rfl⟩ ?_
  rintro g2 _ ⟨A, B, rfl, hR, hAB, hA, rfl⟩
  have hTq : ∀ X, upd h.T k (some (TO.cont 1 X)) k = some (.cont 1 X) := fun X => upd_same _ _ _
  have hcl : ((A ++ x :: (B ++ rest)).map encR).length = xs.length := by
   have h9 := congrArg List.length hrs
   rw [List.length_drop] at h9
   simp; omega
  by_cases h0 : A.length = 0
  ·have hd0 : decide (0 < (A.length : Int)) = false := by simp [h0]
   have hA0 : A = [] := List.eq_nil_of_length_eq_zero h0
   clear hc
   have gz : ((A ++ x :: (B ++ rest)).map encR).getD 0 [] = encR x := by rw [hA0]; rfl
   have i0 : ((A.length : Int)).toNat = 0 := by rw [Int.toNat_natCast]; exact h0
   have i1 : ((A.length : Int) - 1).toNat = 0 := by omega
   (repeat (first | refine gO rfl ?_ | ((first | refine gR ?_ | (with_reducible refine wM ?_ ?_) | ((with_reducible refine xS ?_); refine uD 4 zM26 zPUE zPUP 53 rfl (by kernel_rfl) ?_) | ((with_reducible refine xR ?_); refine uE 6 zM26 zPVE zPVP 53 rfl (by kernel_rfl) ?_)) <;> ((try with_reducible intro K1 hK1); simp only [go_sem, ↓reduceIte, reduceCtorEq, nA, nB, nC, nD, nE, nF, hd0, hTq, hcl, i0, i1, gz, encR] <;> and_intros <;> first | (apply hK1; clear hK1 K1) | (intros; first | omega | decide | (simp_all <;> omega)) | skip))))
   refine ⟨.v (.bool false), rfl, hK1 _ ?_⟩; clear hK1 K1
   (repeat (first | refine gO rfl ?_ | ((first | refine gR ?_ | (with_reducible refine wM ?_ ?_) | ((with_reducible refine xS ?_); refine uD 4 zM26 zPUE zPUP 53 rfl (by kernel_rfl) ?_) | ((with_reducible refine xR ?_); refine uE 6 zM26 zPVE zPVP 53 rfl (by kernel_rfl) ?_)) <;> ((try with_reducible intro K1 hK1); simp only [go_sem, ↓reduceIte, reduceCtorEq, nA, nB, nC, nD, nE, nF, hd0] <;> and_intros <;> first | (apply hK1; clear hK1 K1) | (intros; first | omega | decide | (simp_all <;> omega)) | skip))))
   refine awp_cond (t := _) rfl (fun h9 => by cases h9) (fun _ => ?_)
   (repeat (first | refine gO rfl ?_ | ((first | refine gR ?_ | (with_reducible refine wM ?_ ?_) | ((with_reducible refine xS ?_); refine uD 4 zM26 zPUE zPUP 53 rfl (by kernel_rfl) ?_) | ((with_reducible refine xR ?_); refine uE 6 zM26 zPVE zPVP 53 rfl (by kernel_rfl) ?_)) <;> ((try with_reducible intro K1 hK1); simp only [go_sem, ↓reduceIte, reduceCtorEq, nA, nB, nC, nD, nE, nF] <;> and_intros <;> first | (apply hK1; clear hK1 K1) | (intros; first | omega | decide | (simp_all <;> omega)) | skip))))
   refine ⟨g - 1, by omega, i + 1, by omega, by omega, ?_⟩
   subst hA0
   have e3 : (insS cf (xs.take (i + 1))).reverse ++ xs.drop (i + 1) = x :: (B ++ rest) := by rw [hin, hR, hrs]; simp [insR]
   rw [e3]; rfl
  ·obtain ⟨A', y, rfl⟩ : ∃ A' y, A = A' ++ [y] := by
    rcases List.eq_nil_or_concat A with rfl | ⟨A', y, e⟩
    ·exact absurd rfl h0
    ·exact ⟨A', y, by rw [e, List.concat_eq_append]⟩
   have hd0 : decide (0 < ((A' ++ [y]).length : Int)) = true := by simp
   have hti : (((A' ++ [y]).length : Int) - 1).toNat = A'.length := by simp
   have hy : y ∈ xs := hA y (by simp)
   have gx : (((A' ++ [y]) ++ x :: (B ++ rest)).map encR).getD (A' ++ [y]).length [] = encR x := by
    rw [List.map_append, List.map_cons]
    have := getD_mid ((A' ++ [y]).map encR) (encR x) ((B ++ rest).map encR) []
    rwa [List.length_map] at this
   have gy : (((A' ++ [y]) ++ x :: (B ++ rest)).map encR).getD A'.length [] = encR y := by
    rw [List.append_assoc, List.map_append, List.singleton_append, List.map_cons]
    have := getD_mid (A'.map encR) (encR y) ((x :: (B ++ rest)).map encR) []
    rwa [List.length_map] at this
   have hcc := fun T' => hc x hxm y hy T'
   have hlt : (A' ++ [y]).length < xs.length := by omega
   have hlt2 : A'.length < xs.length := by simp at hlt; omega
   generalize hct : ((A' ++ [y]) ++ x :: (B ++ rest)).map encR = ct at *
   (repeat (first | refine gO rfl ?_ | ((first | refine gR ?_ | (with_reducible refine wM ?_ ?_) | ((with_reducible refine xS ?_); refine uD 4 zM26 zPUE zPUP 53 rfl (by kernel_rfl) ?_) | ((with_reducible refine xR ?_); refine uE 6 zM26 zPVE zPVP 53 rfl (by kernel_rfl) ?_)) <;> ((try with_reducible intro K1 hK1); simp only [go_sem, ↓reduceIte, reduceCtorEq, nA, nB, nC, nD, nE, nF, hd0, hTq, hcl, Int.toNat_natCast, hti, gx, gy, encR] <;> and_intros <;> first | (apply hK1; clear hK1 K1) | (intros; first | omega | decide) | skip))))
   rotate_left 1
   ·rintro ⟨⟩
   refine (hcc _).mono ?_; rintro _ hz ⟨rfl, hh⟩; refine ⟨rfl, hK1 _ ?_⟩; clear hK1 K1; rw [hh]; clear hh hz
   (repeat (first | refine gO rfl ?_ | ((first | refine gR ?_ | (with_reducible refine wM ?_ ?_) | ((with_reducible refine xS ?_); refine uD 4 zM26 zPUE zPUP 53 rfl (by kernel_rfl) ?_) | ((with_reducible refine xR ?_); refine uE 6 zM26 zPVE zPVP 53 rfl (by kernel_rfl) ?_)) <;> ((try with_reducible intro K1 hK1); simp only [go_sem, ↓reduceIte, reduceCtorEq, nA, nB, nC, nD, nE, nF, hd0] <;> and_intros <;> first | (apply hK1; clear hK1 K1) | (intros; first | omega | decide) | skip))))
   refine awp_cond (t := _) rfl (fun h9 => ?_) (fun h9 => ?_)
   ·have h8 : cf x y < 0 := by simpa using h9
    have hs9 : ((A' ++ [y]).length : Int) - 1 = A'.length := by simp
    have e4 : (ct.set (A' ++ [y]).length (encR y)).set A'.length (encR x) = (A' ++ x :: (y :: B ++ rest)).map encR := by
     have h5 := set_mid ((A' ++ [y]).map encR) (encR x) (encR y) ((B ++ rest).map encR)
     have h6 := set_mid (A'.map encR) (encR y) (encR x) ((encR y) :: (B ++ rest).map encR)
     rw [List.length_map] at h5 h6
     rw [← hct, List.map_append, List.map_cons, h5, List.map_append, List.append_assoc]
     rw [show [y].map encR ++ encR y :: (B ++ rest).map encR = encR y :: (encR y :: (B ++ rest).map encR) from rfl, h6]
     simp
    have g3 : (ct.set (A' ++ [y]).length (encR y)).getD A'.length [] = encR y := by
     have h5 := set_mid ((A' ++ [y]).map encR) (encR x) (encR y) ((B ++ rest).map encR)
     have h6 := getD_mid (A'.map encR) (encR y) ((encR y) :: (B ++ rest).map encR) []
     rw [List.length_map] at h5 h6
     rw [← hct, List.map_append, List.map_cons, h5, List.map_append, List.append_assoc]
     exact h6
    have hcl2 : (ct.set (A' ++ [y]).length (encR y)).length = xs.length := by rw [List.length_set, hcl]
    simp only [encR] at e4 g3 hcl2
    (repeat (first | refine gO rfl ?_ | ((first | refine gR ?_ | (with_reducible refine wM ?_ ?_) | ((with_reducible refine xS ?_); refine uD 4 zM26 zPUE zPUP 53 rfl (by kernel_rfl) ?_) | ((with_reducible refine xR ?_); refine uE 6 zM26 zPVE zPVP 53 rfl (by kernel_rfl) ?_)) <;> ((try with_reducible intro K1 hK1); simp only [go_sem, ↓reduceIte, reduceCtorEq, nA, nB, nC, nD, nE, nF, hTq, hcl, hcl2, Int.toNat_natCast, hti, gx, gy, encR, upd_upd] <;> and_intros <;> first | (apply hK1; clear hK1 K1) | (intros; first | omega | decide) | skip))))
    refine ⟨A'.length, by simp, A', y :: B, rfl, ?_, ?_, fun z hz => hA z (List.mem_append_left _ hz), ?_⟩
    ·rw [hR, List.reverse_append, List.reverse_singleton, List.singleton_append, insR, if_pos h8]; simp
    ·simp at hAB ⊢; omega
    ·simp only [g3, List.drop_succ_cons, List.drop_zero, e4, hs9]
     rfl
   ·have h8 : ¬ cf x y < 0 := by simpa using h9
    (repeat (first | refine gO rfl ?_ | ((first | refine gR ?_ | (with_reducible refine wM ?_ ?_) | ((with_reducible refine xS ?_); refine uD 4 zM26 zPUE zPUP 53 rfl (by kernel_rfl) ?_) | ((with_reducible refine xR ?_); refine uE 6 zM26 zPVE zPVP 53 rfl (by kernel_rfl) ?_)) <;> ((try with_reducible intro K1 hK1); simp only [go_sem, ↓reduceIte, reduceCtorEq, nA, nB, nC, nD, nE, nF] <;> and_intros <;> first | (apply hK1; clear hK1 K1) | (intros; first | omega | decide) | skip))))
    refine ⟨g - 1, by omega, i + 1, by omega, by omega, ?_⟩
    have e3 : (insS cf (xs.take (i + 1))).reverse ++ xs.drop (i + 1) = (A' ++ [y]) ++ x :: (B ++ rest) := by rw [hin, hR, hrs]; simp [insR, h8]
    rw [e3, hct]; rfl
 ·simp only [decide_eq_false_iff_not] at h1
  have e1 : (insS cf (xs.take i)).reverse ++ xs.drop i = sortI cf xs := by
   rw [List.drop_eq_nil_of_le (by omega), List.take_of_length_le (by omega), List.append_nil]; rfl
  rw [e1]
  (repeat (first | refine gO rfl ?_ | ((first | refine gR ?_ | (with_reducible refine wM ?_ ?_) | ((with_reducible refine xS ?_); refine uD 4 zM26 zPUE zPUP 53 rfl (by kernel_rfl) ?_) | ((with_reducible refine xR ?_); refine uE 6 zM26 zPVE zPVP 53 rfl (by kernel_rfl) ?_)) <;> ((try with_reducible intro K1 hK1); simp only [go_sem, ↓reduceIte, reduceCtorEq, nA, nB, nC, nD, nE, nF] <;> and_intros <;> first | (apply hK1; clear hK1 K1) | (intros; first | omega | decide | (simp_all <;> omega)) | skip))))
  simp only [Tryz.results229, go_sem, ↓reduceIte, reduceCtorEq, nA, nB, nC, nD, nE, nF]
  exact ⟨_, _, Weak.refl _, Hp.le.refl _, rfl, rfl⟩
theorem g_pdqK {f : Nat} {caps : List AV} (cf : Nat → Nat → Int) (k : Nat) (xs : List Nat) (lim : Int) (h : Hp) (hT : h.T k = some (.cont 1 (xs.map encR))) (hl : xs.length ≤ 12)
  (hc : ∀ x ∈ xs, ∀ y ∈ xs, ∀ T', ACalls Tryz.prog f (caps ++ [encRV x, encRV y]) ⟨h.H, T'⟩ (fun r h' => r = .v (.int .i64 (cf x y)) ∧ h' = ⟨h.H, T'⟩)) :
  ACalls Tryz.prog 211 [.arr 1 k xs.length, .v (.int .i64 0), .v (.int .i64 xs.length), .v (.int .i64 lim), .bfn f caps] h (fun r h' => r = .tup [] ∧ h' = ⟨h.H, upd h.T k (some (.cont 1 ((sortI cf xs).map encR)))⟩) := by
 have hd0 : decide (((xs.length : Int) - 0) ≤ 12) = true := by simp; omega
 have hi := g_insK cf k xs h hT (by omega) hc
 clear hc
 refine gE Tryz.func211 rfl (by kernel_rfl) 143 rfl fun c => ?_
 (repeat (first | refine gO rfl ?_ | ((first | refine gR ?_ | (with_reducible refine wM ?_ ?_) | ((with_reducible refine xS ?_); refine uD 17 zM26 zPWE zPWP 148 rfl (by kernel_rfl) ?_)) <;> ((try with_reducible intro K1 hK1); simp only [go_sem, ↓reduceIte, reduceCtorEq, nA, nB, nC, nD, nE, nF] <;> and_intros <;> first | (apply hK1; clear hK1 K1) | (intros; first | omega | decide | (simp_all <;> omega)) | skip))))
 refine awp_loopC (rl false [0, 5, 5, 2, 136]) 0 (fun g s => s = ⟨((.arr 1 k xs.length) :: (.v (.int .i64 0)) :: (.v (.int .i64 xs.length)) :: (.v (.int .i64 lim)) :: (.bfn f caps) :: (jnk 5 ((.v (.bool true)) :: (.v (.bool true)) :: (jnk 136 [])))), [], h⟩) 1 rfl ?_
 rintro g _ rfl
 (repeat (first | refine gO rfl ?_ | ((first | refine gR ?_ | (with_reducible refine wM ?_ ?_) | ((with_reducible refine xS ?_); refine uD 17 zM26 zPWE zPWP 148 rfl (by kernel_rfl) ?_)) <;> ((try with_reducible intro K1 hK1); simp only [go_sem, ↓reduceIte, reduceCtorEq, nA, nB, nC, nD, nE, nF] <;> and_intros <;> first | (apply hK1; clear hK1 K1) | (intros; first | omega | decide) | skip))))
 refine awp_cond (t := _) rfl (fun _ => ?_) (fun h9 => by rw [hd0] at h9; cases h9)
 (repeat (first | refine gO rfl ?_ | ((first | refine gR ?_ | (with_reducible refine wM ?_ ?_) | ((with_reducible refine xS ?_); refine uD 17 zM26 zPWE zPWP 148 rfl (by kernel_rfl) ?_)) <;> ((try with_reducible intro K1 hK1); simp only [go_sem, ↓reduceIte, reduceCtorEq, nA, nB, nC, nD, nE, nF] <;> and_intros <;> first | (apply hK1; clear hK1 K1) | (intros; first | omega | decide) | skip))))
 refine hi.mono ?_
 rintro _ h2 ⟨rfl, rfl⟩
 refine hK1 _ ?_; clear hK1 K1
 (repeat (first | refine gO rfl ?_ | ((first | refine gR ?_ | (with_reducible refine wM ?_ ?_) | ((with_reducible refine xS ?_); refine uD 17 zM26 zPWE zPWP 148 rfl (by kernel_rfl) ?_)) <;> ((try with_reducible intro K1 hK1); simp only [go_sem, ↓reduceIte, reduceCtorEq, nA, nB, nC, nD, nE, nF] <;> and_intros <;> first | (apply hK1; clear hK1 K1) | (intros; first | omega | decide) | skip))))
 simp only [Tryz.results211, go_sem, ↓reduceIte, reduceCtorEq, nA, nB, nC, nD, nE, nF]
 exact ⟨_, _, Weak.refl _, Hp.le.refl _, rfl, rfl⟩
theorem g_bitsLen (n : Nat) (h : Hp) (hn : n ≤ 1000000) : ACalls Tryz.prog 212 [.v (.int .u64 n)] h (fun r h' => ∃ m : Int, r = .v (.int .i64 m) ∧ h' = h) := by
 refine acalls_mk (by kernel_rfl) fun G w vs hs hv ha => ?_
 have r0 := ha 0 (by simp)
 have hvs : vs = #[vs.getD 0 undef] := by
  have hv1 : vs.size = 1 := hv
  apply Array.ext (by simpa using hv1)
  intro j hj hj'
  simp only [List.size_toArray, List.length_cons, List.length_nil] at hj'
  obtain rfl : j = 0 := by omega
  simp [Array.getD, hv1]
 rw [hvs]
 generalize vs.getD 0 undef = v at r0
 simp only [List.getElem_cons_zero] at r0
 cases r0
 refine (Tryz.bits_Len n w (by omega) (by omega)).mono ?_
 rintro e w' ⟨rfl, rfl⟩
 exact ⟨_, rfl, _, h, G, ⟨_, rfl, rfl⟩, GLe.refl _, Fr.refl _ _ _, hs, .v _ rfl⟩
theorem g_srtK {f : Nat} {caps : List AV} (cf : Nat → Nat → Int) (k : Nat) (xs : List Nat) (h : Hp) (hT : h.T k = some (.cont 1 (xs.map encR))) (hl : xs.length ≤ 12)
  (hc : ∀ x ∈ xs, ∀ y ∈ xs, ∀ T', ACalls Tryz.prog f (caps ++ [encRV x, encRV y]) ⟨h.H, T'⟩ (fun r h' => r = .v (.int .i64 (cf x y)) ∧ h' = ⟨h.H, T'⟩)) :
  ACalls Tryz.prog 182 [.arr 1 k xs.length, .bfn f caps] h (fun r h' => r = .tup [] ∧ h' = ⟨h.H, upd h.T k (some (.cont 1 ((sortI cf xs).map encR)))⟩) := by
 have hwr : IntKind.u64.wrap (xs.length : Int) = xs.length := by simp [IntKind.wrap, IntKind.bits, IntKind.signed]; omega
 have hp := fun lim => g_pdqK cf k xs lim h hT hl hc
 have hbl := g_bitsLen xs.length h (by omega)
 clear hc
 refine gE Tryz.func182 rfl (by kernel_rfl) 12 rfl fun c => ?_
 (repeat (first | refine gO rfl ?_ | (refine gR fun K1 hK1 => ?_; simp only [go_sem, ↓reduceIte, reduceCtorEq, nA, nB, nC, nD, nE, nF, hwr] <;> and_intros <;> first | (apply hK1; clear hK1 K1) | (intros; first | omega | decide) | skip)))
 refine hbl.mono ?_
 rintro _ h2 ⟨n, rfl, rfl⟩
 refine hK1 _ ?_; clear hK1 K1
 (repeat (first | refine gO rfl ?_ | (refine gR fun K1 hK1 => ?_; simp only [go_sem, ↓reduceIte, reduceCtorEq, nA, nB, nC, nD, nE, nF] <;> and_intros <;> first | (apply hK1; clear hK1 K1) | (intros; first | omega | decide) | skip)))
 refine (hp _).mono ?_
 rintro _ h3 ⟨rfl, rfl⟩
 refine hK1 _ ?_; clear hK1 K1
 (repeat (first | refine gO rfl ?_ | (refine gR fun K1 hK1 => ?_; simp only [go_sem, ↓reduceIte, reduceCtorEq, nA, nB, nC, nD, nE, nF] <;> and_intros <;> first | (apply hK1; clear hK1 K1) | (intros; first | omega | decide) | skip)))
 simp only [Tryz.results182, go_sem, ↓reduceIte, reduceCtorEq, nA, nB, nC, nD, nE, nF]
 exact ⟨_, _, Weak.refl _, Hp.le.refl _, rfl, rfl⟩
theorem g_order {K : Nat → Kp} {ci k : Nat} {room rule now : Int} {ps : List Nat} {h : Hp} (hC : h.H ci = some (.cells (encCa room rule now k ps.length))) (hT : h.T k = some (.cont 1 (ps.map encR))) (hl : ps.length ≤ 12) (hK : CacheH h K ps) :
  ACalls Tryz.prog 148 [.ptr ci 0] h (fun r h' => ∃ q, r = .arr 1 q (orderF rule K ps).length ∧ h'.H = h.H ∧ h'.T q = some (.cont 1 ((orderF rule K ps).map encR)) ∧ h.T q = none ∧ ∀ t, h.T t ≠ none → h'.T t = h.T t) := by
 have hcl := g_cloneK k ps h hT (by omega)
 refine gE Tryz.func148 rfl (by kernel_rfl) 14 rfl fun c => ?_
 (repeat (first | refine gO rfl ?_ | (refine gR fun K1 hK1 => ?_; simp only [go_sem, ↓reduceIte, reduceCtorEq, nA, nB, nC, nD, nE, nF, hC, encCa] <;> and_intros <;> first | (apply hK1; clear hK1 K1) | (intros; first | omega | decide | (simp_all <;> omega)) | skip)))
 refine hcl.mono ?_
 rintro _ _ ⟨q, rfl, hq, rfl⟩
 refine hK1 _ ?_; clear hK1 K1
 have hqk : k ≠ q := by rintro rfl; rw [hT] at hq; cases hq
 have hde := g_delK (caps := []) (fun p => (K p).2.2.1) q ps ⟨h.H, upd h.T q (some (.cont 1 (ps.map encR)))⟩ (upd_same _ _ _) (by omega) (fun p hp T' => g_order1 (h := ⟨h.H, T'⟩) (hK p hp))
 (repeat (first | refine gO rfl ?_ | (refine gR fun K1 hK1 => ?_; simp only [go_sem, ↓reduceIte, reduceCtorEq, nA, nB, nC, nD, nE, nF] <;> and_intros <;> first | (apply hK1; clear hK1 K1) | (intros; first | omega | decide) | skip)))
 refine hde.mono ?_
 rintro _ ⟨H2, T2⟩ ⟨q1, rfl, hH, hT1, hoth⟩
 simp only at hH hT1
 subst hH
 refine hK1 _ ?_; clear hK1 K1
 have hf1 : (ps.filter fun p => !(K p).2.2.1).length ≤ 12 := Nat.le_trans (List.length_filter_le _ _) hl
 have hsr := g_srtK (caps := [.ptr ci 0]) (fun p q => cmpK rule (K p) (K q)) q1 (ps.filter fun p => !(K p).2.2.1) ⟨h.H, T2⟩ hT1 hf1 (fun a ha b hb T' => g_compK (h := ⟨h.H, T'⟩) hC (hK a (List.mem_filter.1 ha).1) (hK b (List.mem_filter.1 hb).1))
 (repeat (first | refine gO rfl ?_ | (refine gR fun K1 hK1 => ?_; simp only [go_sem, ↓reduceIte, reduceCtorEq, nA, nB, nC, nD, nE, nF] <;> and_intros <;> first | (apply hK1; clear hK1 K1) | (intros; first | omega | decide) | skip)))
 refine hsr.mono ?_
 rintro _ _ ⟨rfl, rfl⟩
 refine hK1 _ ?_; clear hK1 K1
 (repeat (first | refine gO rfl ?_ | (refine gR fun K1 hK1 => ?_; simp only [go_sem, ↓reduceIte, reduceCtorEq, nA, nB, nC, nD, nE, nF] <;> and_intros <;> first | (apply hK1; clear hK1 K1) | (intros; first | omega | decide) | skip)))
 simp only [Tryz.results148, go_sem, ↓reduceIte, reduceCtorEq, nA, nB, nC, nD, nE, nF]
 refine ⟨_, _, Weak.refl _, Hp.le.refl _, q1, ?_, rfl, upd_same _ _ _, ?_, ?_⟩
 ·rw [orderF, sortI_len]
 ·by_cases e : q1 = q
  ·rw [e]; exact hq
  ·cases e9 : h.T q1 with
   | none => rfl
   | some o =>
    have := (hoth q1 e (by simp only [upd_other _ _ e, e9]; simp)).1
    exact absurd rfl this
 ·intro t ht
  have htq : t ≠ q := by rintro rfl; exact ht hq
  have h9 := hoth t htq (by simp only [upd_other _ _ htq]; exact ht)
  show upd T2 q1 _ t = _
  rw [upd_other _ _ h9.1]
  refine h9.2.trans ?_
  exact upd_other _ _ htq
theorem g_going {K : Nat → Kp} {ci k : Nat} {room rule now bytes : Int} {item : ByteArray} {ps : List Nat} {h : Hp} (hC : h.H ci = some (.cells (encCa room rule now k ps.length))) (hT : h.T k = some (.cont 1 (ps.map encR))) (hl : ps.length ≤ 12) (hK : CacheH h K ps)
  (hB : ∀ p ∈ ps, 0 ≤ (K p).2.1 ∧ (K p).2.1 ≤ 1000000000000) (hr : 0 ≤ room ∧ room ≤ 1000000000000) (hb : 0 ≤ bytes ∧ bytes ≤ 1000000000000) :
  ACalls Tryz.prog 121 [.ptr ci 0, .v (.string item), .v (.int .i64 bytes)] h (fun r h' => ∃ kt, r = .tup [.row 1 ((goingF item bytes room rule K ps).1.map encR) (some kt), .v (.bool (decide ((goingF item bytes room rule K ps).2 ≤ 0)))] ∧ h'.H = h.H ∧ ∀ t, h.T t ≠ none → h'.T t = h.T t) := by
 have hml : (ps.map encR).length = ps.length := List.length_map _
 refine gE Tryz.func121 rfl (by kernel_rfl) 68 rfl fun c => ?_
 (repeat (first | refine gO rfl ?_ | (refine gR fun K1 hK1 => ?_; simp only [go_sem, ↓reduceIte, reduceCtorEq, nA, nB, nC, nD, nE, nF, hC, encCa] <;> and_intros <;> first | (apply hK1; clear hK1 K1) | (intros; first | omega | decide | (simp_all <;> omega)) | skip)))
 refine awp_loopC (rl false [0, 3, 5, 1, 14, 3, 45]) 0 (fun g s => ∃ (j : Nat) (o : Int), g + j = ps.length ∧ overF item K (ps.drop j) o = overF item K ps (bytes - room) ∧ -1000000000000 ≤ o ∧ o ≤ 1000000000000 + j * 1000000000000 ∧
  s = ⟨((.ptr ci 0) :: (.v (.string item)) :: (.v (.int .i64 bytes)) :: (jnk 5 ((.v (.int .i64 o)) :: (jnk 14 ((.arr 1 k ps.length) :: (.v (.int .i64 ps.length)) :: (.v (.int .i64 j)) :: (jnk 45 [])))))), [], h⟩) ps.length ⟨0, bytes - room, by omega, by rw [List.drop_zero], by omega, by omega, rfl⟩ ?_
 rintro g _ ⟨j, o, hj, ho, ho1, ho2, rfl⟩
 (repeat (first | refine gO rfl ?_ | (refine gR fun K1 hK1 => ?_; simp only [go_sem, ↓reduceIte, reduceCtorEq, nA, nB, nC, nD, nE, nF] <;> and_intros <;> first | (apply hK1; clear hK1 K1) | (intros; first | omega | decide) | skip)))
 refine awp_cond (t := _) rfl (fun h1 => ?_) (fun h1 => ?_)
 ·simp only [decide_eq_true_eq] at h1
  have hjl : j < ps.length := by omega
  have gx : (ps.map encR).getD j [] = encR (ps.getD j default) := getD_enc encR ps j default hjl
  have hdj := drop_at' ps j default hjl
  have hpm : ps.getD j default ∈ ps := by rw [List.getD_eq_getElem?_getD, List.getElem?_eq_getElem hjl]; exact List.getElem_mem _
  obtain ⟨p, hp⟩ : ∃ p, ps.getD j default = p := ⟨_, rfl⟩
  rw [hp] at gx hdj hpm
  have hhp := hK p hpm
  have hbp := hB p hpm
  obtain ⟨o9, ho9⟩ : ∃ o9, overF item K ps (bytes - room) = o9 := ⟨_, rfl⟩
  rw [ho9] at ho ⊢
  rw [hdj, overF] at ho
  generalize K p = x at *
  obtain ⟨ke, by1, pi, ca, la, ma⟩ := x
  simp only at ho hbp
  (repeat (first | refine gO rfl ?_ | (refine gR fun K1 hK1 => ?_; simp only [go_sem, ↓reduceIte, reduceCtorEq, nA, nB, nC, nD, nE, nF, hT, hml, Int.toNat_natCast, gx, encR, hhp, encKp] <;> and_intros <;> first | (apply hK1; clear hK1 K1) | (intros; first | omega | decide) | skip)))
  by_cases e : ke = item
  ·refine awp_cond (t := _) rfl (fun h9 => absurd h9 (by rw [e]; simp [ba_beq])) (fun _ => ?_)
   rw [if_pos e] at ho
   (repeat (first | refine gO rfl ?_ | (refine gR fun K1 hK1 => ?_; simp only [go_sem, ↓reduceIte, reduceCtorEq, nA, nB, nC, nD, nE, nF] <;> and_intros <;> first | (apply hK1; clear hK1 K1) | (intros; first | omega | decide) | skip)))
   exact ⟨g - 1, by omega, j + 1, o, by omega, ho, ho1, by omega, rfl⟩
  ·refine awp_cond (t := _) rfl (fun _ => ?_) (fun h9 => absurd (by simpa [ba_beq] using h9) e)
   rw [if_neg e] at ho
   (repeat (first | refine gO rfl ?_ | (refine gR fun K1 hK1 => ?_; simp only [go_sem, ↓reduceIte, reduceCtorEq, nA, nB, nC, nD, nE, nF, hhp, encKp] <;> and_intros <;> first | (apply hK1; clear hK1 K1) | (intros; first | omega | decide) | skip)))
   exact ⟨g - 1, by omega, j + 1, o + by1, by omega, ho, by omega, by omega, rfl⟩
 ·simp only [decide_eq_false_iff_not] at h1
  have hjl : j = ps.length := by omega
  subst hjl
  rw [List.drop_length] at ho
  simp only [overF] at ho
  (repeat refine gO rfl ?_)
  refine awp_seq ?_
  refine awp_AL ?_
  refine AL.cons rfl (Quiet.aop (q_move (.inr rfl)) ?_)
  refine AL.nil ?_
  refine awp_own 11 1 rfl ⟨rfl, rfl⟩ (fun kt hkt => ?_)
  refine awp_cut (rl false [0, 3, 5, 1, 2, 1, 59]) 0 (?_ : Awp _ _ _ _ ⟨((.ptr ci 0) :: (.v (.string item)) :: (.v (.int .i64 bytes)) :: (jnk 5 ((.v (.int .i64 o)) :: AV.junk :: AV.junk :: ((.row 1 [] (some kt)) :: (jnk 59 []))))), [], ⟨h.H, upd h.T kt (some (.tail 0))⟩⟩)
  have hkt' : h.T kt = none := hkt
  have hkk : k ≠ kt := by rintro rfl; rw [hT] at hkt'; cases hkt'
  have hor := g_order (K := K) (rule := rule) (h := ⟨h.H, upd h.T kt (some (.tail 0))⟩) hC ((upd_other _ _ hkk).trans hT) hl hK
  (repeat (first | refine gO rfl ?_ | (refine gR fun K1 hK1 => ?_; simp only [go_sem, ↓reduceIte, reduceCtorEq, nA, nB, nC, nD, nE, nF] <;> and_intros <;> first | (apply hK1; clear hK1 K1) | (intros; first | omega | decide) | skip)))
  refine hor.mono ?_
  rintro _ ⟨H2, T2⟩ ⟨q, rfl, hH, hT2, hq, hoth⟩
  simp only at hH hT2
  subst hH
  refine hK1 _ ?_; clear hK1 K1 hor
  have hqkt : q ≠ kt := by
   intro e
   have hq' : upd h.T kt (some (.tail 0)) q = none := hq
   rw [e, upd_same] at hq'; cases hq'
  have hT2k : T2 kt = some (.tail 0) := by
   have := hoth kt (by show upd h.T kt _ kt ≠ none; rw [upd_same]; simp)
   exact this.trans (upd_same _ _ _)
  have hold : ∀ t, h.T t ≠ none → T2 t = h.T t ∧ t ≠ kt := fun t ht => by
   have htk : t ≠ kt := by rintro rfl; exact ht hkt'
   have := hoth t (by show upd h.T kt _ t ≠ none; rw [upd_other _ _ htk]; exact ht)
   exact ⟨this.trans (upd_other _ _ htk), htk⟩
  have hom : ∀ p ∈ orderF rule K ps, p ∈ ps := fun p hp => orderF_mem hp
  have hol := orderF_len rule K ps
  unfold goingF
  rw [← ho]
  generalize orderF rule K ps = ord at *
  generalize hG : goF item K ord o = G
  have hol2 : (ord.map encR).length = ord.length := List.length_map _
  clear hoth
  (repeat (first | refine gO rfl ?_ | (refine gR fun K1 hK1 => ?_; simp only [go_sem, ↓reduceIte, reduceCtorEq, nA, nB, nC, nD, nE, nF] <;> and_intros <;> first | (apply hK1; clear hK1 K1) | (intros; first | omega | decide) | skip)))
  refine awp_loopC (rl false [0, 3, 5, 1, 2, 1, 31, 3, 25]) 0 (fun g s => ∃ (j : Nat) (o : Int) (acc : List Nat), g + j = ord.length ∧ acc ++ (goF item K (ord.drop j) o).1 = G.1 ∧ (goF item K (ord.drop j) o).2 = G.2 ∧ acc.length ≤ j ∧ -1000000000000 ≤ o ∧ o ≤ 100000000000000 ∧
   s = ⟨((.ptr ci 0) :: (.v (.string item)) :: (.v (.int .i64 bytes)) :: (jnk 5 ((.v (.int .i64 o)) :: AV.junk :: AV.junk :: ((.row 1 (acc.map encR) (some kt)) :: (jnk 31 ((.arr 1 q ord.length) :: (.v (.int .i64 ord.length)) :: (.v (.int .i64 j)) :: (jnk 25 []))))))), [], ⟨h.H, upd T2 kt (some (.tail acc.length))⟩⟩) ord.length ⟨0, o, [], by omega, by rw [List.drop_zero, hG]; rfl, by rw [List.drop_zero, hG], Nat.le_refl _, ho1, by omega, ?_⟩ ?_
  ·have e2 : upd T2 kt (some (TO.tail ([] : List Nat).length)) = T2 := by
    funext t
    by_cases e : t = kt
    ·rw [e, upd_same, hT2k]; rfl
    ·rw [upd_other _ _ e]
   rw [e2]; rfl
  rintro g _ ⟨j, o2, acc, hj, hg1, hg2, hac, hb1, hb2, rfl⟩
  (repeat (first | refine gO rfl ?_ | (refine gR fun K1 hK1 => ?_; simp only [go_sem, ↓reduceIte, reduceCtorEq, nA, nB, nC, nD, nE, nF] <;> and_intros <;> first | (apply hK1; clear hK1 K1) | (intros; first | omega | decide) | skip)))
  refine awp_cond (t := _) rfl (fun h1 => ?_) (fun h1 => ?_)
  ·simp only [decide_eq_true_eq] at h1
   have hjl : j < ord.length := by omega
   have gx : (ord.map encR).getD j [] = encR (ord.getD j default) := getD_enc encR ord j default hjl
   have hdj := drop_at' ord j default hjl
   have hpm : ord.getD j default ∈ ord := by rw [List.getD_eq_getElem?_getD, List.getElem?_eq_getElem hjl]; exact List.getElem_mem _
   obtain ⟨p, hp⟩ : ∃ p, ord.getD j default = p := ⟨_, rfl⟩
   rw [hp] at gx hdj hpm
   have hhp := hK p (hom p hpm)
   have hbp := hB p (hom p hpm)
   have htq : upd T2 kt (some (TO.tail acc.length)) q = some (.cont 1 (ord.map encR)) := (upd_other _ _ hqkt).trans hT2
   have htk2 : upd T2 kt (some (TO.tail acc.length)) kt = some (.tail acc.length) := upd_same _ _ _
   rw [hdj, goF] at hg1 hg2
   generalize K p = x at *
   obtain ⟨ke, by1, pi, ca, la, ma⟩ := x
   simp only at hg1 hg2 hbp
   (repeat (first | refine gO rfl ?_ | (refine gR fun K1 hK1 => ?_; simp only [go_sem, ↓reduceIte, reduceCtorEq, nA, nB, nC, nD, nE, nF, htq, hol2, Int.toNat_natCast, gx, encR] <;> and_intros <;> first | (apply hK1; clear hK1 K1) | (intros; first | omega | decide) | skip)))
   refine awp_cond (t := _) rfl (fun h2 => ?_) (fun h2 => ?_)
   ·simp only [decide_eq_true_eq] at h2
    rw [if_pos h2] at hg1 hg2
    simp only at hg1 hg2
    (repeat (first | refine gO rfl ?_ | (refine gR fun K1 hK1 => ?_; simp only [go_sem, ↓reduceIte, reduceCtorEq, nA, nB, nC, nD, nE, nF] <;> and_intros <;> first | (apply hK1; clear hK1 K1) | (intros; first | omega | decide) | skip)))
    simp only [Tryz.results121, go_sem, ↓reduceIte, reduceCtorEq, nA, nB, nC, nD, nE, nF]
    refine ⟨_, _, Weak.refl _, Hp.le.refl _, kt, by rw [← hg1, ← hg2, List.append_nil], rfl, fun t ht => ?_⟩
    exact (upd_other _ _ (hold t ht).2).trans (hold t ht).1
   ·simp only [decide_eq_false_iff_not] at h2
    rw [if_neg h2] at hg1 hg2
    (repeat (first | refine gO rfl ?_ | (refine gR fun K1 hK1 => ?_; simp only [go_sem, ↓reduceIte, reduceCtorEq, nA, nB, nC, nD, nE, nF, hhp, encKp] <;> and_intros <;> first | (apply hK1; clear hK1 K1) | (intros; first | omega | decide) | skip)))
    by_cases e : ke = item
    ·refine awp_cond (t := _) rfl (fun h9 => absurd h9 (by rw [e]; simp [ba_beq])) (fun _ => ?_)
     rw [if_pos e] at hg1 hg2
     (repeat (first | refine gO rfl ?_ | (refine gR fun K1 hK1 => ?_; simp only [go_sem, ↓reduceIte, reduceCtorEq, nA, nB, nC, nD, nE, nF] <;> and_intros <;> first | (apply hK1; clear hK1 K1) | (intros; first | omega | decide) | skip)))
     exact ⟨g - 1, by omega, j + 1, o2, acc, by omega, hg1, hg2, by omega, hb1, hb2, rfl⟩
    ·refine awp_cond (t := _) rfl (fun _ => ?_) (fun h9 => absurd (by simpa [ba_beq] using h9) e)
     rw [if_neg e] at hg1 hg2
     (repeat (first | refine gO rfl ?_ | (refine gR fun K1 hK1 => ?_; simp only [go_sem, ↓reduceIte, reduceCtorEq, nA, nB, nC, nD, nE, nF, hhp, encKp, htk2, List.length_map] <;> and_intros <;> first | (apply hK1; clear hK1 K1) | (intros; first | omega | decide) | skip)))
     refine ⟨g - 1, by omega, j + 1, o2 - by1, acc ++ [p], by omega, by rw [List.append_assoc]; exact hg1, hg2, by rw [List.length_append, List.length_singleton]; omega, by omega, by omega, ?_⟩
     rw [List.map_append, List.length_append]
     rfl
  ·simp only [decide_eq_false_iff_not] at h1
   have hjl : j = ord.length := by omega
   subst hjl
   rw [List.drop_length, goF] at hg1 hg2
   simp only at hg1 hg2
   (repeat (first | refine gO rfl ?_ | (refine gR fun K1 hK1 => ?_; simp only [go_sem, ↓reduceIte, reduceCtorEq, nA, nB, nC, nD, nE, nF] <;> and_intros <;> first | (apply hK1; clear hK1 K1) | (intros; first | omega | decide) | skip)))
   simp only [Tryz.results121, go_sem, ↓reduceIte, reduceCtorEq, nA, nB, nC, nD, nE, nF]
   refine ⟨_, _, Weak.refl _, Hp.le.refl _, kt, by rw [← hg1, ← hg2, List.append_nil], rfl, fun t ht => ?_⟩
   exact (upd_other _ _ (hold t ht).2).trans (hold t ht).1
abbrev zPXE : List Nat := [0, 1, 2, 3, 4, 5, 6, 7, 8, 9, 10, 11, 12, 13]
abbrev zPXP : List (Nat × List Nat × List Nat) := []
attribute [go_sem] zPXE zPXP
def encNm (x : Kp) : List AV := [.v (.string x.1)]
def PutR (room rule now bytes : Int) (item : ByteArray) (K : Nat → Kp) (ps : List Nat) (ci k : Nat) (h : Hp) (r : AV) (h' : Hp) : Prop :=
 match putL room rule now (ps.map K) item bytes with
 | none => r = .tup [.v (.slice none 0 0), .v (.int .i64 12)] ∧ h'.H = h.H ∧ ∀ t, h.T t ≠ none → h'.T t = h.T t
 | some (L', g) => ∃ (K' : Nat → Kp) (ps' : List Nat) (k' kt : Nat), r = .tup [.row 1 (g.map encNm) (some kt), .v (.int .i64 0)] ∧ ps'.map K' = L' ∧ CacheH h' K' ps' ∧ h'.H ci = some (.cells (encCa room rule (now + 1) k' ps'.length)) ∧
   h'.T k' = some (.cont 1 (ps'.map encR)) ∧ ci ∉ ps' ∧ (∀ q, h.H q ≠ none → q ≠ ci → q ∉ ps → h'.H q = h.H q) ∧ ∀ t, h.T t ≠ none → t ≠ k → h'.T t = h.T t
theorem goingF_mem {item : ByteArray} {bytes room rule : Int} {K : Nat → Kp} {ps : List Nat} {p : Nat} (h : p ∈ (goingF item bytes room rule K ps).1) : p ∈ ps := orderF_mem (goF_mem h)
theorem goF_not {item : ByteArray} {K : Nat → Kp} : ∀ {ps : List Nat} {o : Int} {p : Nat}, p ∈ (goF item K ps o).1 → (K p).1 ≠ item
 | [], _, _, h => by simp [goF] at h
 | q :: ps, o, p, h => by
  unfold goF at h
  split at h
  ·simp at h
  ·split at h
   ·exact goF_not h
   ·rename_i e
    rcases List.mem_cons.1 h with rfl | h
    ·exact e
    ·exact goF_not h
theorem findF_cases (item : ByteArray) (K : Nat → Kp) (ps : List Nat) : (hasL item (ps.map K) = false ∧ findF item K ps = nilP) ∨ ∃ p ∈ ps, (K p).1 = item ∧ hasL item (ps.map K) = true ∧ findF item K ps = .ptr p 0 := by
 unfold findF
 cases e : ps.find? (fun p => (K p).1 == item) with
 | none =>
  refine .inl ⟨?_, rfl⟩
  cases hh : hasL item (ps.map K) with
  | false => rfl
  | true =>
   obtain ⟨x, hx, e2⟩ := hasL_iff.1 hh
   obtain ⟨p, hp, rfl⟩ := List.mem_map.1 hx
   have := List.find?_eq_none.1 e p hp
   rw [ba_beq] at this
   simp [e2] at this
 | some p =>
  have h1 := List.find?_some e
  have h2 := List.mem_of_find?_eq_some e
  rw [ba_beq] at h1
  have h3 : (K p).1 = item := by simpa using h1
  exact .inr ⟨p, h2, h3, hasL_iff.2 ⟨K p, List.mem_map_of_mem h2, h3⟩, rfl⟩
theorem g_put {K : Nat → Kp} {ci k : Nat} {room rule now bytes : Int} {item : ByteArray} {ps : List Nat} {h : Hp} (hC : h.H ci = some (.cells (encCa room rule now k ps.length))) (hT : h.T k = some (.cont 1 (ps.map encR))) (hl : ps.length ≤ 11) (hK : CacheH h K ps)
  (hci : ci ∉ ps) (hone : KeysOne (ps.map K)) (hKey : ∀ h, ACalls Tryz.prog 45 [.v (.string item)] h (fun r h' => r = .v (.bool true) ∧ h' = h))
  (hB : ∀ p ∈ ps, 0 ≤ (K p).2.1 ∧ (K p).2.1 ≤ 1000000000000) (hM : ∀ p ∈ ps, 0 ≤ (K p).2.2.2.2.2 ∧ (K p).2.2.2.2.2 ≤ 1000000000) (hr : 0 ≤ room ∧ room ≤ 1000000000000) (hb : 1 ≤ bytes ∧ bytes ≤ 1000000000000) (hnow : 0 ≤ now ∧ now ≤ 1000000000) :
  ACalls Tryz.prog 94 [.ptr ci 0, .v (.string item), .v (.int .i64 bytes)] h (PutR room rule now bytes item K ps ci k h) := by
 have hgo := g_going (item := item) (bytes := bytes) hC hT (by omega) hK hB hr (by omega)
 have hgm := goingF_map item bytes room rule K ps
 have hgmem : ∀ p ∈ (goingF item bytes room rule K ps).1, p ∈ ps := fun p hp => goingF_mem hp
 have hgnot : ∀ p ∈ (goingF item bytes room rule K ps).1, (K p).1 ≠ item := fun p hp => goF_not hp
 have hglen : (goingF item bytes room rule K ps).1.length ≤ ps.length := Nat.le_trans (goF_len item K _ _) (orderF_len rule K ps)
 have hP : putL room rule now (ps.map K) item bytes = putL room rule now (ps.map K) item bytes := rfl
 conv at hP => rhs; unfold putL; rw [← hgm]
 simp only at hP
 generalize goingF item bytes room rule K ps = go at *
 obtain ⟨gone, over⟩ := go
 simp only at hP hgmem hgnot hglen hgo
 clear hgm
 have hOut := a_outside bytes 1 1000000000000
 have hOutE : (decide (bytes < 1) || decide (1000000000000 < bytes)) = false := by simp; omega
 refine gE Tryz.func94 rfl (by kernel_rfl) 93 rfl fun c => ?_
 (repeat (first | refine gO rfl ?_ | ((first | refine gM zM29 ?_ | (with_reducible refine wM ?_ ?_) | ((with_reducible refine xS ?_); refine uD 9 zM29 zPXE zPXP 96 rfl (by kernel_rfl) ?_)) <;> ((try with_reducible intro K1 hK1); simp only [go_sem, ↓reduceIte, reduceCtorEq, nA, nB, nC, nD, nE, nF] <;> and_intros <;> first | (apply hK1; clear hK1 K1) | (intros; first | omega | decide | (simp_all <;> omega)) | skip))))
 refine (hKey _).mono ?_; rintro _ hz ⟨rfl, hh⟩; apply hK1; clear hK1 K1; rw [hh]; clear hh hz
 (repeat (first | refine gO rfl ?_ | ((first | refine gM zM29 ?_ | (with_reducible refine wM ?_ ?_) | ((with_reducible refine xS ?_); refine uD 9 zM29 zPXE zPXP 96 rfl (by kernel_rfl) ?_)) <;> ((try with_reducible intro K1 hK1); simp only [go_sem, ↓reduceIte, reduceCtorEq, nA, nB, nC, nD, nE, nF] <;> and_intros <;> first | (apply hK1; clear hK1 K1) | (intros; first | omega | decide) | skip))))
 refine awp_cond (t := _) rfl (fun h9 => by cases h9) (fun _ => ?_)
 (repeat (first | refine gO rfl ?_ | ((first | refine gM zM29 ?_ | (with_reducible refine wM ?_ ?_) | ((with_reducible refine xS ?_); refine uD 9 zM29 zPXE zPXP 96 rfl (by kernel_rfl) ?_)) <;> ((try with_reducible intro K1 hK1); simp only [go_sem, ↓reduceIte, reduceCtorEq, nA, nB, nC, nD, nE, nF] <;> and_intros <;> first | (apply hK1; clear hK1 K1) | (intros; first | omega | decide) | skip))))
 refine (hOut _).mono ?_; rintro _ hz ⟨rfl, hh⟩; apply hK1; clear hK1 K1; rw [hh]; clear hh hz
 rw [hOutE]
 clear hKey hOut hOutE
 (repeat (first | refine gO rfl ?_ | ((first | refine gM zM29 ?_ | (with_reducible refine wM ?_ ?_) | ((with_reducible refine xS ?_); refine uD 9 zM29 zPXE zPXP 96 rfl (by kernel_rfl) ?_)) <;> ((try with_reducible intro K1 hK1); simp only [go_sem, ↓reduceIte, reduceCtorEq, nA, nB, nC, nD, nE, nF] <;> and_intros <;> first | (apply hK1; clear hK1 K1) | (intros; first | omega | decide) | skip))))
 refine awp_cond (t := _) rfl (fun h9 => by cases h9) (fun _ => ?_)
 (repeat (first | refine gO rfl ?_ | ((first | refine gM zM29 ?_ | (with_reducible refine wM ?_ ?_) | ((with_reducible refine xS ?_); refine uD 9 zM29 zPXE zPXP 96 rfl (by kernel_rfl) ?_)) <;> ((try with_reducible intro K1 hK1); simp only [go_sem, ↓reduceIte, reduceCtorEq, nA, nB, nC, nD, nE, nF] <;> and_intros <;> first | (apply hK1; clear hK1 K1) | (intros; first | omega | decide) | skip))))
 refine hgo.mono ?_
 rintro _ ⟨H2, T2⟩ ⟨kg, rfl, hH, hold⟩
 simp only at hH hold
 subst hH
 refine hK1 _ ?_; clear hK1 K1 hgo
 (repeat (first | refine gO rfl ?_ | ((first | refine gM zM29 ?_ | (with_reducible refine wM ?_ ?_) | ((with_reducible refine xS ?_); refine uD 9 zM29 zPXE zPXP 96 rfl (by kernel_rfl) ?_)) <;> ((try with_reducible intro K1 hK1); simp only [go_sem, ↓reduceIte, reduceCtorEq, nA, nB, nC, nD, nE, nF] <;> and_intros <;> first | (apply hK1; clear hK1 K1) | (intros; first | omega | decide) | skip))))
 intro i hi
 replace hi : h.H i = none := hi
 refine hK1 _ ?_; clear hK1 K1
 (repeat (first | refine gO rfl ?_ | ((first | refine gM zM29 ?_ | (with_reducible refine wM ?_ ?_) | ((with_reducible refine xS ?_); refine uD 9 zM29 zPXE zPXP 96 rfl (by kernel_rfl) ?_)) <;> ((try with_reducible intro K1 hK1); simp only [go_sem, ↓reduceIte, reduceCtorEq, nA, nB, nC, nD, nE, nF, upd_same, upd_upd] <;> and_intros <;> first | (apply hK1; clear hK1 K1) | (intros; first | omega | decide) | skip))))
 by_cases ho : over ≤ 0
 case neg =>
  have hof : decide (over ≤ 0) = false := by simpa using ho
  rw [if_neg ho] at hP
  refine awp_cond (t := !decide (over ≤ 0)) rfl (fun _ => ?_) (fun h9 => by rw [hof] at h9; cases h9)
  (repeat (first | refine gO rfl ?_ | ((first | refine gM zM29 ?_ | (with_reducible refine wM ?_ ?_) | ((with_reducible refine xS ?_); refine uD 9 zM29 zPXE zPXP 96 rfl (by kernel_rfl) ?_)) <;> ((try with_reducible intro K1 hK1); simp only [go_sem, ↓reduceIte, reduceCtorEq, nA, nB, nC, nD, nE, nF] <;> and_intros <;> first | (apply hK1; clear hK1 K1) | (intros; first | omega | decide) | skip))))
  simp only [Tryz.results94, go_sem, ↓reduceIte, reduceCtorEq, nA, nB, nC, nD, nE, nF]
  refine ⟨_, ⟨h.H, T2⟩, Weak.refl _, ⟨fun q => ?_, fun _ => .inr rfl⟩, ?_⟩
  ·by_cases e : q = i
   ·rw [e]; exact .inl hi
   ·exact .inr (upd_other _ _ e).symm
  ·unfold PutR
   rw [hP]
   exact ⟨rfl, rfl, hold⟩
 have hot : decide (over ≤ 0) = true := by simpa using ho
 rw [if_pos ho] at hP
 refine awp_cond (t := !decide (over ≤ 0)) rfl (fun h9 => by rw [hot] at h9; cases h9) (fun _ => ?_)
 have hcii : ci ≠ i := by rintro rfl; rw [hC] at hi; cases hi
 have hpi : ∀ p ∈ ps, p ≠ i := fun p hp => by rintro rfl; have := hK p hp; rw [hi] at this; cases this
 have hne : h.T k ≠ none := by rw [hT]; simp
 have hT2 : T2 k = some (.cont 1 (ps.map encR)) := (hold k hne).trans hT
 have hC3 : upd h.H i (some (.cells [.row 1 (gone.map encR) (some kg)])) ci = some (.cells (encCa room rule now k ps.length)) := (upd_other _ _ hcii).trans hC
 have hI3 : upd h.H i (some (.cells [.row 1 (gone.map encR) (some kg)])) i = some (.cells [.row 1 (gone.map encR) (some kg)]) := upd_same _ _ _
 have hK3 : CacheH ⟨upd h.H i (some (.cells [.row 1 (gone.map encR) (some kg)])), T2⟩ K ps := fun p hp => (upd_other _ _ (hpi p hp)).trans (hK p hp)
 have hfi := g_find (item := item) K ci k room rule now ps ⟨upd h.H i (some (.cells [.row 1 (gone.map encR) (some kg)])), T2⟩ hC3 hT2 (by omega) hK3
 have hfc := findF_cases item K ps
 have hus : uside (findF item K ps) := by rcases hfc with ⟨_, e⟩ | ⟨_, _, _, _, e⟩ <;> rw [e] <;> trivial
 have hun : unw (findF item K ps) = findF item K ps := by rcases hfc with ⟨_, e⟩ | ⟨_, _, _, _, e⟩ <;> rw [e] <;> rfl
 have hcl : cutLoc 0 (findF item K ps) = findF item K ps := by rcases hfc with ⟨_, e⟩ | ⟨_, _, _, _, e⟩ <;> rw [e] <;> rfl
 generalize findF item K ps = fk at *
 unfold uside at hus
 unfold unw at hun
 (repeat (first | refine gO rfl ?_ | ((first | refine gM zM29 ?_ | (with_reducible refine wM ?_ ?_) | ((with_reducible refine xS ?_); refine uD 9 zM29 zPXE zPXP 96 rfl (by kernel_rfl) ?_)) <;> ((try with_reducible intro K1 hK1); simp only [go_sem, ↓reduceIte, reduceCtorEq, nA, nB, nC, nD, nE, nF] <;> and_intros <;> first | (apply hK1; clear hK1 K1) | (intros; first | omega | decide) | skip))))
 refine hfi.mono ?_
 rintro fk hz ⟨rfl, hh⟩; apply hK1; clear hK1 K1; rw [hh]; clear hh hz
 clear hfi
 (repeat (first | refine gQ rfl ?_ | ((first | refine gM zM29 ?_ | (with_reducible refine wM ?_ ?_) | ((with_reducible refine xS ?_); refine uD 9 zM29 zPXE zPXP 96 rfl (by kernel_rfl) ?_)) <;> ((try with_reducible intro K1 hK1); simp only [go_sem, ↓reduceIte, reduceCtorEq, nA, nB, nC, nD, nE, nF, hus, hun] <;> and_intros <;> first | (apply hK1; clear hK1 K1) | (intros; first | omega | decide | (simp_all <;> omega)) | skip))))
 refine awp_seq ?_
 have hlen2 : -1000000000 ≤ (ps.length : Int) - (gone.length : Int) + 1 ∧ (ps.length : Int) - (gone.length : Int) + 1 ≤ 500 := by omega
 have hbig : decide ((500 : Int) < (ps.length : Int) - (gone.length : Int) + 1) = false := by simp; omega
 have hml : (gone.map encR).length = gone.length := List.length_map _
 refine awp_join (rl false [0, 3, 5, 1, 1, 1, 85]) 0 (fun s => s = ⟨((.ptr ci 0) :: (.v (.string item)) :: (.v (.int .i64 bytes)) :: (jnk 5 ((.ptr i 0) :: AV.junk :: ((fk) :: (jnk 85 []))))), [], ⟨upd h.H i (some (.cells [.row 1 (gone.map encR) (some kg)])), T2⟩⟩) ?_ ?_
 ·rcases hfc with ⟨_, rfl⟩ | ⟨p, hp, hpk, hhas, rfl⟩
  ·unfold nilP
   (repeat (first | refine gO rfl ?_ | ((first | refine gM zM29 ?_ | (with_reducible refine wM ?_ ?_) | ((with_reducible refine xS ?_); refine uD 9 zM29 zPXE zPXP 96 rfl (by kernel_rfl) ?_)) <;> ((try with_reducible intro K1 hK1); simp only [go_sem, ↓reduceIte, reduceCtorEq, nA, nB, nC, nD, nE, nF, hC3, hI3, encCa, hml] <;> and_intros <;> first | (apply hK1; clear hK1 K1) | (intros; first | omega | decide) | skip))))
   refine awp_cond (t := _) rfl (fun h9 => by rw [hbig] at h9; cases h9) (fun _ => ?_)
   (repeat (first | refine gO rfl ?_ | ((first | refine gM zM29 ?_ | (with_reducible refine wM ?_ ?_) | ((with_reducible refine xS ?_); refine uD 9 zM29 zPXE zPXP 96 rfl (by kernel_rfl) ?_)) <;> ((try with_reducible intro K1 hK1); simp only [go_sem, ↓reduceIte, reduceCtorEq, nA, nB, nC, nD, nE, nF] <;> and_intros <;> first | (apply hK1; clear hK1 K1) | (intros; first | omega | decide) | skip))))
   rfl
  ·(repeat (first | refine gO rfl ?_ | ((first | refine gM zM29 ?_ | (with_reducible refine wM ?_ ?_) | ((with_reducible refine xS ?_); refine uD 9 zM29 zPXE zPXP 96 rfl (by kernel_rfl) ?_)) <;> ((try with_reducible intro K1 hK1); simp only [go_sem, ↓reduceIte, reduceCtorEq, nA, nB, nC, nD, nE, nF, hC3, hI3, encCa, hml] <;> and_intros <;> first | (apply hK1; clear hK1 K1) | (intros; first | omega | decide) | skip))))
   refine awp_cond (t := _) rfl (fun h9 => by cases h9) (fun _ => ?_)
   (repeat (first | refine gO rfl ?_ | ((first | refine gM zM29 ?_ | (with_reducible refine wM ?_ ?_) | ((with_reducible refine xS ?_); refine uD 9 zM29 zPXE zPXP 96 rfl (by kernel_rfl) ?_)) <;> ((try with_reducible intro K1 hK1); simp only [go_sem, ↓reduceIte, reduceCtorEq, nA, nB, nC, nD, nE, nF] <;> and_intros <;> first | (apply hK1; clear hK1 K1) | (intros; first | omega | decide) | skip))))
   rfl
 rintro _ rfl
 clear hbig hlen2
 (repeat (first | refine gQ rfl ?_ | ((first | refine gM zM29 ?_ | (with_reducible refine wM ?_ ?_) | ((with_reducible refine xS ?_); refine uD 9 zM29 zPXE zPXP 96 rfl (by kernel_rfl) ?_)) <;> ((try with_reducible intro K1 hK1); simp only [go_sem, ↓reduceIte, reduceCtorEq, nA, nB, nC, nD, nE, nF] <;> and_intros <;> first | (apply hK1; clear hK1 K1) | (intros; first | omega | decide | (simp_all <;> omega)) | skip))))
 refine awp_own 11 1 rfl ⟨rfl, rfl⟩ (fun kt hkt => ?_)
 replace hkt : T2 kt = none := hkt
 refine awp_cut (rl false [0, 3, 5, 1, 1, 2, 84]) 0 (?_ : Awp _ _ _ _ ⟨((.ptr ci 0) :: (.v (.string item)) :: (.v (.int .i64 bytes)) :: (jnk 5 ((.ptr i 0) :: AV.junk :: ((cutLoc 0 fk) :: (.row 1 [] (some kt)) :: (jnk 84 []))))), [], ⟨upd h.H i (some (.cells [.row 1 (gone.map encR) (some kg)])), upd T2 kt (some (.tail 0))⟩⟩)
 rw [hcl]
 have hkk : k ≠ kt := by rintro rfl; rw [hT2] at hkt; cases hkt
 have hl2 := hglen
 (repeat (first | refine gQ rfl ?_ | ((first | refine gM zM29 ?_ | (with_reducible refine wM ?_ ?_) | ((with_reducible refine xS ?_); refine uD 9 zM29 zPXE zPXP 96 rfl (by kernel_rfl) ?_)) <;> ((try with_reducible intro K1 hK1); simp only [go_sem, ↓reduceIte, reduceCtorEq, nA, nB, nC, nD, nE, nF, hI3, hml] <;> and_intros <;> first | (apply hK1; clear hK1 K1) | (intros; first | omega | decide | (simp_all <;> omega)) | skip))))
 refine awp_seq ?_
 (repeat (first | refine gQ rfl ?_ | ((first | refine gM zM29 ?_ | (with_reducible refine wM ?_ ?_) | ((with_reducible refine xS ?_); refine uD 9 zM29 zPXE zPXP 96 rfl (by kernel_rfl) ?_)) <;> ((try with_reducible intro K1 hK1); simp only [go_sem, ↓reduceIte, reduceCtorEq, nA, nB, nC, nD, nE, nF, hI3, hml] <;> and_intros <;> first | (apply hK1; clear hK1 K1) | (intros; first | omega | decide | (simp_all <;> omega)) | skip))))
 refine awp_loopC (rl false [0, 3, 5, 1, 1, 2, 33, 3, 48]) 0 (fun g s => ∃ j : Nat, g + j = gone.length ∧
  s = ⟨((.ptr ci 0) :: (.v (.string item)) :: (.v (.int .i64 bytes)) :: (jnk 5 ((.ptr i 0) :: AV.junk :: ((fk) :: (.row 1 ((gone.take j).map fun p => encNm (K p)) (some kt)) :: (jnk 33 ((.row 1 (gone.map encR) (some kg)) :: (.v (.int .i64 gone.length)) :: (.v (.int .i64 j)) :: (jnk 48 []))))))), [], ⟨upd h.H i (some (.cells [.row 1 (gone.map encR) (some kg)])), upd T2 kt (some (.tail j))⟩⟩) gone.length ⟨0, by omega, congrArg (fun z => (⟨((.ptr ci 0) :: (.v (.string item)) :: (.v (.int .i64 bytes)) :: (jnk 5 ((.ptr i 0) :: AV.junk :: ((z) :: (.row 1 ((gone.take 0).map fun p => encNm (K p)) (some kt)) :: (jnk 33 ((.row 1 (gone.map encR) (some kg)) :: (.v (.int .i64 gone.length)) :: (.v (.int .i64 ((0 : Nat) : Int))) :: (jnk 48 []))))))), [], ⟨upd h.H i (some (.cells [.row 1 (gone.map encR) (some kg)])), upd T2 kt (some (.tail 0))⟩⟩ : St)) hcl⟩ ?_
 rintro g _ ⟨j, hj, rfl⟩
 (repeat (first | refine gO rfl ?_ | ((first | refine gM zM29 ?_ | (with_reducible refine wM ?_ ?_) | ((with_reducible refine xS ?_); refine uD 9 zM29 zPXE zPXP 96 rfl (by kernel_rfl) ?_)) <;> ((try with_reducible intro K1 hK1); simp only [go_sem, ↓reduceIte, reduceCtorEq, nA, nB, nC, nD, nE, nF] <;> and_intros <;> first | (apply hK1; clear hK1 K1) | (intros; first | omega | decide) | skip))))
 refine awp_cond (t := _) rfl (fun h1 => ?_) (fun h1 => ?_)
 ·simp only [decide_eq_true_eq] at h1
  have hjl : j < gone.length := by omega
  have gx : (gone.map encR).getD j [] = encR (gone.getD j default) := getD_enc encR gone j default hjl
  have htj := take_at' gone j default hjl
  have hpm : gone.getD j default ∈ ps := hgmem _ (by rw [List.getD_eq_getElem?_getD, List.getElem?_eq_getElem hjl]; exact List.getElem_mem _)
  obtain ⟨p, hp⟩ : ∃ p, gone.getD j default = p := ⟨_, rfl⟩
  rw [hp] at gx htj hpm
  have hhp := hK3 p hpm
  have hen : encNm (K p) = [.v (.string (K p).1)] := rfl
  have htl : (gone.take j).length = j := by rw [List.length_take]; omega
  have htk : upd T2 kt (some (TO.tail j)) kt = some (.tail j) := upd_same _ _ _
  generalize hx : K p = x at *
  obtain ⟨ke, by1, pi, ca, la, ma⟩ := x
  (repeat (first | refine gO rfl ?_ | ((first | refine gM zM29 ?_ | (with_reducible refine wM ?_ ?_) | ((with_reducible refine xS ?_); refine uD 9 zM29 zPXE zPXP 96 rfl (by kernel_rfl) ?_)) <;> ((try with_reducible intro K1 hK1); simp only [go_sem, ↓reduceIte, reduceCtorEq, nA, nB, nC, nD, nE, nF, hml, Int.toNat_natCast, gx, encR, hhp, encKp, List.length_map, htl, htk] <;> and_intros <;> first | (apply hK1; clear hK1 K1) | (intros; first | omega | decide) | skip))))
  refine ⟨g - 1, by omega, j + 1, by omega, ?_⟩
  rw [htj, List.map_append, List.map_cons, hx, hen]
  exact congrArg (fun z => (⟨((.ptr ci 0) :: (.v (.string item)) :: (.v (.int .i64 bytes)) :: (jnk 5 ((.ptr i 0) :: AV.junk :: ((z) :: (.row 1 (((gone.take j).map fun p => encNm (K p)) ++ [[.v (.string ke)]]) (some kt)) :: (jnk 33 ((.row 1 (gone.map encR) (some kg)) :: (.v (.int .i64 gone.length)) :: (.v (.int .i64 ((j : Int) + 1))) :: (jnk 48 []))))))), [], ⟨upd h.H i (some (.cells [.row 1 (gone.map encR) (some kg)])), upd T2 kt (some (.tail (j + 1)))⟩⟩ : St)) hcl
 simp only [decide_eq_false_iff_not] at h1
 have hjl : j = gone.length := by omega
 subst hjl
 rw [List.take_length]
 have hT4 : upd T2 kt (some (TO.tail gone.length)) k = some (.cont 1 (ps.map encR)) := (upd_other _ _ hkk).trans hT2
 have hde := g_delK (caps := [.ptr i 0]) (fun p => gone.contains p) k ps ⟨upd h.H i (some (.cells [.row 1 (gone.map encR) (some kg)])), upd T2 kt (some (.tail gone.length))⟩ hT4 (by omega) (fun p hp T' => g_put1 (K := K) p kg i gone ⟨_, T'⟩ hI3 (hK3 p hp) (fun q hq => hK3 q (hgmem q hq)) (by omega))
 (repeat (first | refine gO rfl ?_ | ((first | refine gM zM29 ?_ | (with_reducible refine wM ?_ ?_) | ((with_reducible refine xS ?_); refine uD 9 zM29 zPXE zPXP 96 rfl (by kernel_rfl) ?_)) <;> ((try with_reducible intro K1 hK1); simp only [go_sem, ↓reduceIte, reduceCtorEq, nA, nB, nC, nD, nE, nF, hC3, encCa] <;> and_intros <;> first | (apply hK1; clear hK1 K1) | (intros; first | omega | decide) | skip))))
 refine hde.mono ?_
 rintro _ ⟨H5, T5⟩ ⟨q, rfl, hH5, hT5, hoth⟩
 simp only at hH5 hT5 hoth
 subst hH5
 refine hK1 _ ?_; clear hK1 K1 hde
 have hst : ps.filter (fun p => !gone.contains p) = stayF gone ps := rfl
 rw [hst] at hT5 ⊢
 have hsm : ∀ p ∈ stayF gone ps, p ∈ ps := fun p hp => (List.mem_filter.1 hp).1
 have hsl : (stayF gone ps).length ≤ ps.length := List.length_filter_le _ _
 have hsmap := stayF_map (K := K) hone hgmem
 have hone2 : KeysOne ((stayF gone ps).map K) := by rw [hsmap]; exact keysOne_filter hone _
 have hrow : gone.map (fun p => encNm (K p)) = (gone.map K).map encNm := by rw [List.map_map]; rfl
 have hTfr : ∀ t, h.T t ≠ none → t ≠ k → T5 t = h.T t ∧ t ≠ q := fun t ht htk => by
  have h1 := hold t ht
  have h2 : t ≠ kt := by rintro rfl; rw [h1] at hkt; exact ht hkt
  have h3 := hoth t htk (by rw [upd_other _ _ h2, h1]; exact ht)
  exact ⟨h3.2.trans ((upd_other _ _ h2).trans h1), h3.1⟩
 have hpci : ∀ p ∈ ps, p ≠ ci := fun p hp => by rintro rfl; exact hci hp
 generalize hSt : stayF gone ps = st at *
 rcases hfc with ⟨hhas, rfl⟩ | ⟨p, hp, hpk, hhas, rfl⟩
 ·unfold nilP
  (repeat (first | refine gO rfl ?_ | ((first | refine gM zM29 ?_ | (with_reducible refine wM ?_ ?_) | ((with_reducible refine xS ?_); refine uD 9 zM29 zPXE zPXP 96 rfl (by kernel_rfl) ?_)) <;> ((try with_reducible intro K1 hK1); simp only [go_sem, ↓reduceIte, reduceCtorEq, nA, nB, nC, nD, nE, nF, hC3, encCa] <;> and_intros <;> first | (apply hK1; clear hK1 K1) | (intros; first | omega | decide) | skip))))
  obtain ⟨H6, hH6⟩ : ∃ H6, H6 = upd (upd h.H i (some (AO.cells [AV.row 1 (List.map encR gone) (some kg)]))) ci (some (AO.cells [.v (.int .i64 room), .v (.int .i64 rule), .v (.int .i64 now), AV.arr 1 q st.length])) := ⟨_, rfl⟩
  rw [← hH6]
  have c6 : H6 ci = some (.cells (encCa room rule now q st.length)) := by rw [hH6]; exact upd_same _ _ _
  have k6 : ∀ r, r ≠ ci → r ≠ i → H6 r = h.H r := fun r h1 h2 => by rw [hH6, upd_other _ _ h1, upd_other _ _ h2]
  clear hH6
  refine awp_cond (t := _) rfl (fun _ => ?_) (fun h9 => by cases h9)
  (repeat (first | refine gO rfl ?_ | ((first | refine gM zM29 ?_ | (with_reducible refine wM ?_ ?_) | ((with_reducible refine xS ?_); refine uD 9 zM29 zPXE zPXP 96 rfl (by kernel_rfl) ?_)) <;> ((try with_reducible intro K1 hK1); simp only [go_sem, ↓reduceIte, reduceCtorEq, nA, nB, nC, nD, nE, nF, c6, encCa] <;> and_intros <;> first | (apply hK1; clear hK1 K1) | (intros; first | omega | decide) | skip))))
  intro pn hpn
  replace hpn : H6 pn = none := hpn
  refine hK1 _ ?_; clear hK1 K1
  have hcn : ci ≠ pn := by rintro rfl; rw [c6] at hpn; cases hpn
  have hnc : pn ≠ ci := fun e => hcn e.symm
  have hrn : ∀ r, h.H r ≠ none → r ≠ ci → r ≠ pn := fun r hr h1 => by
   rintro rfl
   rw [k6 r h1 (by rintro rfl; exact hr hi)] at hpn
   exact hr hpn
  have hstl : (st.map encR).length = st.length := List.length_map _
  have hTq : ∀ X, upd T5 q (some (TO.cont 1 X)) q = some (.cont 1 X) := fun X => upd_same _ _ _
  have hask := fun H T n (hc : H ci = some (.cells (encCa room rule now q n))) (hpp : H pn = some (.cells (encKp (item, bytes, false, now + 1, 0, 0)))) => g_ask (x := (item, bytes, false, now + 1, 0, 0)) (h := ⟨H, T⟩) hc hpp hcn (by omega) (by show (0 : Int) ≤ 0 ∧ (0 : Int) ≤ 1000000000; omega)
  (repeat (first | refine gO rfl ?_ | ((first | refine gM zM29 ?_ | (with_reducible refine wM ?_ ?_) | ((with_reducible refine xS ?_); refine uD 9 zM29 zPXE zPXP 96 rfl (by kernel_rfl) ?_)) <;> ((try with_reducible intro K1 hK1); simp only [go_sem, ↓reduceIte, reduceCtorEq, nA, nB, nC, nD, nE, nF, c6, encCa, upd_other _ _ hcn, upd_other _ _ hnc, upd_same, hT5, hstl] <;> and_intros <;> first | (apply hK1; clear hK1 K1) | (intros; first | omega | decide) | skip))))
  refine (hask _ _ (st.length + 1) ((upd_other _ _ hcn).trans (upd_same _ _ _)) (upd_same _ _ _)).mono ?_; rintro _ hz ⟨rfl, hh⟩; apply hK1; clear hK1 K1; rw [hh]; clear hh hz
  (repeat (first | refine gO rfl ?_ | ((first | refine gM zM29 ?_ | (with_reducible refine wM ?_ ?_) | ((with_reducible refine xS ?_); refine uD 9 zM29 zPXE zPXP 96 rfl (by kernel_rfl) ?_)) <;> ((try with_reducible intro K1 hK1); simp only [go_sem, ↓reduceIte, reduceCtorEq, nA, nB, nC, nD, nE, nF] <;> and_intros <;> first | (apply hK1; clear hK1 K1) | (intros; first | omega | decide) | skip))))
  simp only [Tryz.results94, go_sem, ↓reduceIte, reduceCtorEq, nA, nB, nC, nD, nE, nF]
  refine ⟨_, _, Weak.refl _, Hp.le.refl _, ?_⟩
  unfold PutR
  rw [hP, hhas, if_neg (by decide)]
  have hnst : pn ∉ st := fun hm => hrn pn (by rw [hK pn (hsm pn hm)]; simp) (hpci pn (hsm pn hm)) rfl
  have hKK : st.map (fun r => if r = pn then newK item bytes now else K r) = st.map K := List.map_congr_left fun r hr => if_neg (fun (e : r = pn) => hnst (e ▸ hr))
  refine ⟨fun r => if r = pn then newK item bytes now else K r, st ++ [pn], q, kt, by rw [hrow], ?_, fun r hr => ?_, ?_, ?_, fun hm => ?_, fun r hr h1 h2 => ?_, fun t ht htk => ?_⟩
  ·rw [List.map_append, hKK, hsmap, List.map_cons, List.map_nil, if_pos rfl]
  ·show upd (upd _ ci _) pn _ r = some (AO.cells (encKp (if r = pn then newK item bytes now else K r)))
   by_cases e : r = pn
   ·rw [e, upd_same, if_pos rfl]; rfl
   ·have hrs : r ∈ st := by
     rcases List.mem_append.1 hr with h1 | h1
     ·exact h1
     ·exact absurd (List.mem_singleton.1 h1) e
    rw [upd_other _ _ e, upd_other _ _ (hpci r (hsm r hrs)), upd_other _ _ e, upd_other _ _ (hpci r (hsm r hrs)), upd_other _ _ e, k6 r (hpci r (hsm r hrs)) (hpi r (hsm r hrs)), if_neg e]
    exact hK r (hsm r hrs)
  ·show upd (upd _ ci _) pn _ ci = _
   rw [upd_other _ _ hcn, upd_same, List.length_append, List.length_singleton]
  ·show upd T5 q _ q = _
   rw [upd_same, List.map_append]; rfl
  ·rcases List.mem_append.1 hm with h1 | h1
   ·exact hci (hsm ci h1)
   ·exact hcn (List.mem_singleton.1 h1)
  ·show upd (upd _ ci _) pn _ r = _
   have e : r ≠ pn := hrn r hr h1
   have ei : r ≠ i := by rintro rfl; exact hr hi
   rw [upd_other _ _ e, upd_other _ _ h1, upd_other _ _ e, upd_other _ _ h1, upd_other _ _ e, k6 r h1 ei]
  ·show upd T5 q _ t = _
   rw [upd_other _ _ (hTfr t ht htk).2]; exact (hTfr t ht htk).1
 ·(repeat (first | refine gO rfl ?_ | ((first | refine gM zM29 ?_ | (with_reducible refine wM ?_ ?_) | ((with_reducible refine xS ?_); refine uD 9 zM29 zPXE zPXP 96 rfl (by kernel_rfl) ?_)) <;> ((try with_reducible intro K1 hK1); simp only [go_sem, ↓reduceIte, reduceCtorEq, nA, nB, nC, nD, nE, nF, hC3, encCa] <;> and_intros <;> first | (apply hK1; clear hK1 K1) | (intros; first | omega | decide) | skip))))
  obtain ⟨H6, hH6⟩ : ∃ H6, H6 = upd (upd h.H i (some (AO.cells [AV.row 1 (List.map encR gone) (some kg)]))) ci (some (AO.cells [.v (.int .i64 room), .v (.int .i64 rule), .v (.int .i64 now), AV.arr 1 q st.length])) := ⟨_, rfl⟩
  rw [← hH6]
  have c6 : H6 ci = some (.cells (encCa room rule now q st.length)) := by rw [hH6]; exact upd_same _ _ _
  have k6 : ∀ r, r ≠ ci → r ≠ i → H6 r = h.H r := fun r h1 h2 => by rw [hH6, upd_other _ _ h1, upd_other _ _ h2]
  clear hH6
  refine awp_cond (t := _) rfl (fun h9 => by cases h9) (fun _ => ?_)
  have p6 : H6 p = some (.cells (encKp (K p))) := (k6 p (hpci p hp) (hpi p hp)).trans (hK p hp)
  have hMp := hM p hp
  have hask := fun H (hc : H ci = some (.cells (encCa room rule now q st.length))) (hpp : H p = some (.cells (encKp (setB bytes (K p))))) => g_ask (x := setB bytes (K p)) (h := ⟨H, T5⟩) hc hpp (hpci p hp).symm (by omega) hMp
  have hcp : ci ≠ p := (hpci p hp).symm
  have hKe : encKp (setB bytes (K p)) = [.v (.string (K p).1), .v (.int .i64 bytes), .v (.bool (K p).2.2.1), .v (.int .i64 (K p).2.2.2.1), .v (.int .i64 (K p).2.2.2.2.1), .v (.int .i64 (K p).2.2.2.2.2)] := rfl
  have hKe2 : encKp (K p) = [.v (.string (K p).1), .v (.int .i64 (K p).2.1), .v (.bool (K p).2.2.1), .v (.int .i64 (K p).2.2.2.1), .v (.int .i64 (K p).2.2.2.2.1), .v (.int .i64 (K p).2.2.2.2.2)] := rfl
  rw [hKe2] at p6
  (repeat (first | refine gO rfl ?_ | ((first | refine gM zM29 ?_ | (with_reducible refine wM ?_ ?_) | ((with_reducible refine xS ?_); refine uD 9 zM29 zPXE zPXP 96 rfl (by kernel_rfl) ?_)) <;> ((try with_reducible intro K1 hK1); simp only [go_sem, ↓reduceIte, reduceCtorEq, nA, nB, nC, nD, nE, nF, p6] <;> and_intros <;> first | (apply hK1; clear hK1 K1) | (intros; first | omega | decide) | skip))))
  refine (hask _ ((upd_other _ _ hcp).trans c6) (by rw [hKe]; exact upd_same _ _ _)).mono ?_; rintro _ hz ⟨rfl, hh⟩; apply hK1; clear hK1 K1; rw [hh]; clear hh hz
  (repeat (first | refine gO rfl ?_ | ((first | refine gM zM29 ?_ | (with_reducible refine wM ?_ ?_) | ((with_reducible refine xS ?_); refine uD 9 zM29 zPXE zPXP 96 rfl (by kernel_rfl) ?_)) <;> ((try with_reducible intro K1 hK1); simp only [go_sem, ↓reduceIte, reduceCtorEq, nA, nB, nC, nD, nE, nF] <;> and_intros <;> first | (apply hK1; clear hK1 K1) | (intros; first | omega | decide) | skip))))
  simp only [Tryz.results94, go_sem, ↓reduceIte, reduceCtorEq, nA, nB, nC, nD, nE, nF]
  refine ⟨_, _, Weak.refl _, Hp.le.refl _, ?_⟩
  unfold PutR
  rw [hP, hhas, if_pos rfl]
  have hps : p ∈ st := by
   rw [← hSt]
   refine List.mem_filter.2 ⟨hp, ?_⟩
   cases hc : gone.contains p with
   | false => rfl
   | true => exact absurd hpk (hgnot p (List.contains_iff_mem.1 hc))
  refine ⟨fun r => if r = p then askF (now + 1) (setB bytes (K p)) else K r, st, q, kt, by rw [hrow], ?_, fun r hr => ?_, ?_, hT5, fun hm => hci (hsm ci hm), fun r hr h1 h2 => ?_, fun t ht htk => (hTfr t ht htk).1⟩
  ·rw [← hsmap]
   exact atK_map (fun x => askF (now + 1) (setB bytes x)) hone2 hps hpk
  ·show upd (upd _ ci _) p _ r = some (AO.cells (encKp (if r = p then askF (now + 1) (setB bytes (K p)) else K r)))
   by_cases e : r = p
   ·subst e; rw [upd_same, if_pos rfl]
   ·rw [upd_other _ _ e, upd_other _ _ (hpci r (hsm r hr)), upd_other _ _ e, k6 r (hpci r (hsm r hr)) (hpi r (hsm r hr)), if_neg e]
    exact hK r (hsm r hr)
  ·show upd (upd _ ci _) p _ ci = _
   rw [upd_other _ _ hcp, upd_same]
  ·show upd (upd _ ci _) p _ r = _
   have e : r ≠ p := fun e => h2 (e ▸ hp)
   have ei : r ≠ i := by rintro rfl; exact hr hi
   rw [upd_other _ _ e, upd_other _ _ h1, upd_other _ _ e, k6 r h1 ei]
def missB (room rule : Int) : List ByteArray → Int → List Kp → Bool
  | [], _, _ => true
  | s :: l, now, L => decide (L.length ≤ 11) && (if hasL s L then missB room rule l (now + 1) (atK s (askF (now + 1)) L) else
    match putL room rule now L s 1 with
    | some (L', _) => missB room rule l (now + 1) L'
    | none => false)
def OkL (now : Int) (L : List Kp) : Prop := ∀ x ∈ L, x.2.1 = 1 ∧ 0 ≤ x.2.2.2.2.2 ∧ x.2.2.2.2.2 ≤ now
theorem OkL.ask {now : Int} {L : List Kp} (h : OkL now L) (s : ByteArray) : OkL (now + 1) (atK s (askF (now + 1)) L) := fun x hx => by
  obtain ⟨y, hy, rfl⟩ := List.mem_map.1 hx
  have := h y hy
  split
  · exact ⟨this.1, by show 0 ≤ y.2.2.2.2.2 + 1 ∧ y.2.2.2.2.2 + 1 ≤ now + 1; omega⟩
  · exact ⟨this.1, by omega⟩
theorem OkL.put {now : Int} {L L' g : List Kp} (h : OkL now L) (h0 : 0 ≤ now) {room rule : Int} {s : ByteArray} (hp : putL room rule now L s 1 = some (L', g)) : OkL (now + 1) L' := by
  unfold putL at hp
  split at hp
  · simp only [Option.some.injEq, Prod.mk.injEq] at hp
    obtain ⟨rfl, _⟩ := hp
    split
    · intro x hx
      obtain ⟨y, hy, rfl⟩ := List.mem_map.1 hx
      have := h y (leftL_sub hy)
      split
      · exact ⟨rfl, by show 0 ≤ y.2.2.2.2.2 + 1 ∧ y.2.2.2.2.2 + 1 ≤ now + 1; omega⟩
      · exact ⟨this.1, by omega⟩
    · intro x hx
      rcases List.mem_append.1 hx with hx | hx
      · have := h x (leftL_sub hx)
        exact ⟨this.1, by omega⟩
      · rw [List.mem_singleton] at hx
        subst hx
        exact ⟨rfl, by show (0 : Int) ≤ 1 ∧ (1 : Int) ≤ now + 1; omega⟩
  · cases hp
theorem missL_cons (room rule : Int) (s : ByteArray) (l : List ByteArray) (now : Int) (L : List Kp) (n : Int) : missL room rule (s :: l) now L n = if hasL s L then missL room rule l (now + 1) (atK s (askF (now + 1)) L) n else
    match putL room rule now L s 1 with
    | some (L', _) => missL room rule l (now + 1) L' (n + 1)
    | none => none := rfl
theorem missB_cons (room rule : Int) (s : ByteArray) (l : List ByteArray) (now : Int) (L : List Kp) : missB room rule (s :: l) now L = (decide (L.length ≤ 11) && (if hasL s L then missB room rule l (now + 1) (atK s (askF (now + 1)) L) else
    match putL room rule now L s 1 with
    | some (L', _) => missB room rule l (now + 1) L'
    | none => false)) := rfl
end Go.Proofs.YtlaakjlpfgfdkaaGreatDoor
