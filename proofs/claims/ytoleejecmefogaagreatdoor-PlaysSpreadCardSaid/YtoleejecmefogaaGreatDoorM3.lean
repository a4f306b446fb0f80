/- slices.Sorted at what maps.Keys handed back: a map's keys in order. -/
import Derived.Test.YtoleejecmefogaaGreatDoorM2
import Derived.Test.YtoleejecmefogaaGreatDoorAvOwn
import Derived.Lib.ItoaMem
import Derived.Lib.Hide
import Derived.Test.YtoleejecmefogaaGreatDoorShelf
import Derived.Shelf.Strings.Builder1
import Derived.Test.YtoleejecmefogaaGreatDoorAvOld
import Derived.Test.YtoleejecmefogaaGreatDoorAvTy
import Derived.Test.YtoleejecmefogaaGreatDoorAvFz
namespace Go.Proofs.YtoleejecmefogaaGreatDoor
open Go.RowKit Go.Maps Go.Sort Go.Shelf Go.WideElems Go.MapKept
set_option linter.unusedVariables false
set_option linter.unusedSimpArgs false
abbrev zM30 : Option Tmp → Nat := mdL [(1, 2)]
abbrev zM31 : Option Tmp → Nat := mdL [(4, 1), (11, 1), (16, 1), (53, 2)]
abbrev zM32 : Option Tmp → Nat := mdL [(6, 1), (8, 1)]
abbrev zM33 : Option Tmp → Nat := mdL [(12, 1)]
abbrev zM34 : Option Tmp → Nat := mdL [(8, 1), (74, 1)]
abbrev zM35 : Option Tmp → Nat := mdL [(3, 2)]
abbrev zM36 : Option Tmp → Nat := mdL [(7, 1), (120, 1)]
abbrev zM37 : Option Tmp → Nat := mdL [(5, 1)]
abbrev zM38 : Option Tmp → Nat := mdL [(1, 2), (4, 2), (5, 2), (6, 2), (8, 1), (9, 2), (10, 2)]
attribute [go_sem] zM30 zM31 zM32 zM33 zM34 zM35 zM36 zM37 zM38
def keyL (x : MapEntry) : List UInt8 := match x.key with
  | .string s => s.data.toList
  | _ => []
def okR {H : Type} : Value → Option (DataW H × List MemPlace) := fun _ => some (.lit (.bool true), [])
theorem ents_fit {H : Type} {P : Program} {k : TypeId} (hk : P.underlying k = some .string) {ents : Array MapEntry} {clock : Nat} (hst : Stamped ents clock) (hs : ∀ x ∈ ents.toList, ∃ s : ByteArray, x.key = .string s ∧ s.size ≤ maxLen) (hl : ents.size ≤ maxLen) : Fit (H := H) P k okR ents clock := by
  refine ⟨hl, hst, fun x hx => ?_⟩
  obtain ⟨s, e, hsz⟩ := hs x hx
  exact ⟨(.string s.data.toList, .lit (.bool true)), by simp [Go.WideElems.rd, keyOf, hk, e, mapKey, hsz, okR]⟩
theorem ents_keys {H : Type} {P : Program} {k : TypeId} (hk : P.underlying k = some .string) {l : List MapEntry} (hs : ∀ x ∈ l, ∃ s : ByteArray, x.key = .string s ∧ s.size ≤ maxLen) : (l.map (Go.WideElems.rg (H := H) P k okR)).map (fun p => strOf p.1) = l.map keyL := by
  rw [List.map_map]
  refine List.map_congr_left fun x hx => ?_
  obtain ⟨s, e, hsz⟩ := hs x hx
  have : Go.WideElems.rd (H := H) P k okR x = some (.string s.data.toList, .lit (.bool true)) := by simp [Go.WideElems.rd, keyOf, hk, e, mapKey, hsz, okR]
  simp [Go.WideElems.rg, this, strOf, keyL, e]
set_option maxRecDepth 100000 in
set_option maxHeartbeats 1000000 in
theorem sorted_walkW (p b : Nat) (ents : Array MapEntry) (clock : Nat) (W : World) (hp : W.cell? ⟨p, 0, none⟩ = some (.map (some b))) (hb : W.heap[b]? = some (.map ents clock)) (hst : Stamped ents clock)
    (hs : ∀ x ∈ ents.toList, ∃ s : ByteArray, x.key = .string s ∧ s.size ≤ maxLen) (hl : ents.size ≤ 100000) :
    Calls Tryz.prog 79 #[.func (.func 145) #[] #[.pointer (some ⟨p, 0, none⟩)]] W fun e w' => ∃ (v : Value) (ss : List (List UInt8)), e = .returned v ∧ ss.Perm (ents.toList.map keyL) ∧
      w'.ownsRow W.heap.size 9 1 v ss.length ((ss.mergeSort (fun x y => decide (x ≤ y))).map encStr) ∧ Below W.heap.size W w' := by
  have hk : Tryz.prog.underlying 9 = some .string := Tryz.underlying9
  have hmx : (100000 : Nat) ≤ maxLen := by decide
  have F := ents_fit (H := Unit) hk hst hs (by omega)
  have hpb : p < W.heap.size := World.block_lt_of_cell? W _ hp
  have hperm : ((ents.toList.map (Go.WideElems.rg (H := Unit) Tryz.prog 9 okR)).foldr DataW.insert []).Perm (ents.toList.map (Go.WideElems.rg Tryz.prog 9 okR)) := Go.WideShapes.sorted_perm _
  have hlen : Maps.size (.map ((ents.toList.map (Go.WideElems.rg (H := Unit) Tryz.prog 9 okR)).foldr DataW.insert [])) = ents.size := by
    rw [Maps.size_eq, hperm.length_eq]; simp
  have hown : W.ownsMap Tryz.prog 9 (okR (H := Unit)) b ents.size (.map ((ents.toList.map (Go.WideElems.rg Tryz.prog 9 okR)).foldr DataW.insert [])) := ⟨ents, clock, hb, F, Nat.le_refl _, rfl⟩
  have hseq := AnyZ.keys_gives (ρ := Tryz.keys90_ren) { Tryz.keys90 with } Fence.wide 2 trivial rfl (by omega) p b ents.size _ W hpb hp hown
  have hc := AnyZ.sorted_in Tryz.sorted79 Fence.wide 5 trivial trivial trivial trivial rfl (by omega) (Tryz.sorts79 _) (enters_of Tryz.func138 (by kernel_rfl) rfl) 145 #[.pointer (some ⟨p, 0, none⟩)] trivial
    (enters_of Tryz.func145 (by kernel_rfl) rfl) _ _ (by rw [hlen]; omega) (by rw [hlen]; omega) W hseq
  refine (callsIn_wide.1 hc).mono ?_
  rintro e w' ⟨v, ss, rfl, hS, hrow, _, hbel⟩
  refine ⟨v, ss, rfl, hS.trans ?_, hrow, hbel⟩
  rw [← ents_keys (H := Unit) hk hs]
  exact hperm.map _
open Go
open Nat renaming reduceAdd → nA, reduceSub → nB, reduceMul → nC, reduceLT → nD, reduceLeDiff → nE, reduceEqDiff → nF, reduceMod → nG, reduceDiv → nH, reducePow → nI
set_option maxRecDepth 100000
set_option maxHeartbeats 8000000
theorem g_keysW (m : Nat) (h : Hp) : ACalls Tryz.prog 90 [.map m] h (fun r h' => ∃ i, h.H i = none ∧ r = .fn 145 [.ptr i 0] ∧ h' = { h with H := upd h.H i (some (.cells [.map m])) }) := by
 refine gE Tryz.func90 rfl (by kernel_rfl) 3 rfl fun c => ?_
 (repeat (first | refine gO rfl ?_ | (refine gM zM30 fun K1 hK1 => ?_; simp only [go_sem, ↓reduceIte, reduceCtorEq, nA, nB, nC, nD, nE, nF] <;> and_intros <;> first | (apply hK1; clear hK1 K1) | (intros; first | omega | decide | (simp_all <;> omega)) | skip)))
 intro i hi
 refine hK1 _ ?_; clear hK1 K1
 (repeat (first | refine gO rfl ?_ | (refine gM zM30 fun K1 hK1 => ?_; simp only [go_sem, ↓reduceIte, reduceCtorEq, nA, nB, nC, nD, nE, nF] <;> and_intros <;> first | (apply hK1; clear hK1 K1) | (intros; first | omega | decide | (simp_all <;> omega)) | skip)))
 simp only [Tryz.results90, go_sem, ↓reduceIte, reduceCtorEq, nA, nB, nC, nD, nE, nF]
 exact ⟨_, _, Weak.refl _, Hp.le.refl _, i, hi, rfl, rfl⟩
theorem g_sortedW (i m : Nat) (es : List (ByteArray × AV)) (ns : List ByteArray) (h : Hp) (hi : h.H i = some (.cells [.map m])) (hm : h.H m = some (.map es)) (hmem : ∀ k, k ∈ es.map (·.1) ↔ k ∈ ns) (hsz : ∀ k ∈ es.map (·.1), k.size ≤ 1000000) (hl : es.length ≤ 100000) :
  ACalls Tryz.prog 79 [.fn 145 [.ptr i 0]] h (fun r h' => r = .row 1 ((onceS ns).map encS) none ∧ h' = h) := by
 refine acalls_mk (by kernel_rfl) fun G w vs hs hv ha => ?_
 have hr := ha 0 (by simp)
 have hvs : vs = #[vs.getD 0 undef] := by
  have hv1 : vs.size = 1 := hv
  apply Array.ext (by simpa using hv1)
  intro j hj hj'
  simp only [List.size_toArray, List.length_cons, List.length_nil] at hj'
  obtain rfl : j = 0 := by omega
  simp [Array.getD, hv1]
 rw [hvs]
 generalize vs.getD 0 undef = v at *
 simp only [List.getElem_cons_zero] at hr
 cases hr with
 | fn _ _ us u hlu huu hru =>
 have h0 := hru 0 (by simp)
 have hu0 := huu 0 (by simp)
 simp only [List.getElem_cons_zero] at h0
 have hus : us = #[u 0] := by
  have hl1 : us.size = 1 := hlu
  apply Array.ext (by simpa using hl1)
  intro j hj hj'
  simp only [List.size_toArray, List.length_cons, List.length_nil] at hj'
  obtain rfl : j = 0 := by omega
  rw [Array.getElem?_eq_getElem hj] at hu0
  simpa using hu0
 rw [hus]
 generalize u 0 = p0 at h0
 cases h0 with
 | ptr _ _ p hat =>
 obtain ⟨p', ob, e', hh, ⟨cs, E, rfl, hcr⟩, _⟩ := hs.obj i _ hi
 rw [hat] at e'; cases e'
 obtain ⟨x, hx, hrx, _⟩ := hcr.getD (j := 0) (by simp)
 simp only [List.getD_cons_zero] at hrx
 cases hrx with
 | map _ b hab =>
 have hcell : w.cell? ⟨p, 0, none⟩ = some (.map (some b)) := by
  rw [List.getElem?_take] at hx
  split at hx
  ·simpa [World.cell?, hh] using hx
  ·cases hx
 obtain ⟨b', ob, e', hhb, ⟨ents, clock, rfl, hst, hsize, hent⟩, _⟩ := hs.obj m _ hm
 rw [hab] at e'; cases e'
 have hkeys : ents.toList.map keyL = es.map (fun q => q.1.data.toList) := by
  apply List.ext_getElem (by simpa using hsize)
  intro j h1 h2
  have h3 := hent j (by simpa using h2) (by simpa using h1)
  simp only [List.getElem_map, Array.getElem_toList, keyL, h3.1]
 have hks : ∀ x ∈ ents.toList, ∃ s : ByteArray, x.key = .string s ∧ s.size ≤ maxLen := fun x hx => by
  obtain ⟨j, hj, e⟩ := List.getElem_of_mem hx
  have hj2 : j < ents.size := by simpa using hj
  have hj3 : j < es.length := by omega
  have h3 := hent j hj3 hj2
  have hmx : (1000000 : Nat) ≤ maxLen := by decide
  refine ⟨es[j].1, by rw [← e]; simpa using h3.1, Nat.le_trans (hsz _ (List.mem_map.2 ⟨es[j], List.getElem_mem hj3, rfl⟩)) hmx⟩
 have hnd : (es.map (fun q => q.1.data.toList)).Nodup := by
  rw [← hkeys]
  have h3 : ents.toList.map (fun x => x.key) = (ents.toList.map keyL).map encStr := by
   rw [List.map_map]
   refine List.map_congr_left fun x hx => ?_
   obtain ⟨s, e, _⟩ := hks x hx
   simp [keyL, e, encStr]
  have h4 := hst.2.2
  rw [h3] at h4
  exact List.Pairwise.of_map encStr (fun a b h e => h (by rw [e])) h4
 refine (sorted_walkW p b ents clock w hcell hhb hst hks (by omega)).mono ?_
 rintro _ w' ⟨v', ss, rfl, hperm, own, bel⟩
 rw [hkeys] at hperm
 have hmm : ∀ x, x ∈ ss ↔ x ∈ ns.map (·.data.toList) := fun x => by
  rw [hperm.mem_iff, List.mem_map, List.mem_map]
  constructor
  ·rintro ⟨q, hq, rfl⟩; exact ⟨q.1, (hmem q.1).1 (List.mem_map.2 ⟨q, hq, rfl⟩), rfl⟩
  ·rintro ⟨k, hk, rfl⟩
   obtain ⟨q, hq, rfl⟩ := List.mem_map.1 ((hmem k).2 hk)
   exact ⟨q, hq, rfl⟩
 have hko := keys_once (hperm.nodup_iff.2 hnd) hmm
 have hsl : ss.length = (onceS ns).length := by
  have := congrArg List.length hko
  rw [List.length_mergeSort] at this
  rw [this, onceS, List.length_map]
 rw [hko, onceS_cells, hsl] at own
 obtain ⟨G', g1, f1, s1, r1⟩ := row_of_own hs bel own (xs := (onceS ns).map encS) (by simp) (fun x hx => by obtain ⟨y, _, rfl⟩ := List.mem_map.1 hx; rfl) (by rw [flat_encS]; exact repL_strs G _)
 exact ⟨v', rfl, _, h, G', ⟨rfl, rfl⟩, g1, f1, s1, r1⟩
abbrev zPQE : List Nat := [0, 1, 2, 3, 4, 5, 6, 7, 8, 9, 10, 11]
abbrev zPQP : List (Nat × List Nat × List Nat) := [(12, [], [])]
attribute [go_sem] zPQE zPQP
def IZ : Nat → LT → Prop
 | 0, _ => True
 | d + 1, .mk _ item _ _ kids _ => item.size ≤ 2 ∧ ∀ k ∈ kids, IZ d k
theorem IZ.dflt : ∀ d : Nat, IZ d default
 | 0 => trivial
 | d + 1 => show IZ (d + 1) (.mk 0 default 0 0 [] []) from ⟨Nat.zero_le _, fun k hk => (by cases hk)⟩
theorem iz_of : ∀ (d : Nat) (t : LT), KC d t → IZ d t
 | 0, _, _ => trivial
 | d + 1, .mk kind item long many kids shares, h => ⟨h.2.1, fun k hk => iz_of d k (h.2.2.2.2.2.2.2 k hk)⟩
theorem pass_item : ∀ (d : Nat) (t : LT) (s : PS), IZ d t → ∀ x ∈ (passU d t s).2, x.1.size ≤ 2
 | 0, _, _, _ => by simp [passU]
 | d + 1, .mk kind item long many kids shares, .mk p cs ks, hi => by
  rw [passU_succ]
  have hk : ∀ i, IZ d (kids.getD i default) := fun i => by
   by_cases h : i < kids.length
   ·exact hi.2 _ (getD_mem' kids i default h)
   ·rw [List.getD_eq_getElem?_getD, List.getElem?_eq_none (by omega)]; exact IZ.dflt d
  have key : ∀ (L : List Nat) (a : (List Int × List PS) × List (ByteArray × Int)), (∀ x ∈ a.2, x.1.size ≤ 2) → ∀ x ∈ (L.foldl (stepU (passU d) kids) a).2, x.1.size ≤ 2 := fun L => by
   induction L with
   | nil => intro a h; exact h
   | cons i L ih =>
    intro a h
    refine ih _ (fun x hx => ?_)
    rcases List.mem_append.1 hx with h9 | h9
    ·exact h x h9
    ·exact pass_item d _ _ (hk i) x h9
  refine key _ _ ?_
  split
  ·intro x hx
   rw [List.mem_singleton.1 hx]
   exact hi.1
  ·simp
theorem passes_item {d : Nat} {t : LT} (h : IZ d t) : ∀ n, ∀ x ∈ (passesU d t n).2, x.1.size ≤ 2
 | 0 => by simp [passesU]
 | n + 1 => fun x hx => by
  rcases List.mem_append.1 hx with h9 | h9
  ·exact passes_item h n x h9
  ·exact pass_item d t _ h x h9
structure GoodS (xs : List (ByteArray × Int)) : Prop where
 ne : xs ≠ []
 len : xs.length ≤ 5000
 pos : Pos xs
 item : ∀ x ∈ xs, x.1.size ≤ 2
theorem rd_good {d : Nat} {t : LT} (hb : KC d t) (h : rdE d t = 0) : GoodS (rdS d t) := by
 unfold rdE at h
 unfold rdS
 by_cases hf : faultF t = 0
 ·rw [if_pos hf] at h ⊢
  have hp := part_of_fault hf
  have hv := vl_of d t hb hp
  refine ⟨fun e => ?_, roundS_len d t, roundS_long (il_of d t hp), fun x hx => ?_⟩
  ·have := roundS_pos hv h
   rw [e] at this; simp at this
  ·unfold roundS at hx
   split at hx
   ·cases hx
   ·exact passes_item (iz_of d t hb) _ x hx
 ·rw [if_neg hf] at h; exact absurd h hf
theorem rd_bad2 {d : Nat} {t : LT} (h : rdE d t ≠ 0) : rdS d t = [] := (rd_bad h).1
abbrev zPRE : List Nat := [0, 1, 2, 3, 4, 5, 6, 7, 8, 9, 10, 12, 13, 14, 15, 16, 17, 18, 19]
abbrev zPRP : List (Nat × List Nat × List Nat) := [(11, [14, 17, 19], []), (20, [], [21, 22]), (23, [], []), (24, [], [])]
attribute [go_sem] zPRE zPRP
theorem ptrs_keys (f : ByteArray → Nat) (ks : List ByteArray) : (ptrsL f ks).map (·.1) = ks := by
 rw [ptrsL, List.map_map]
 exact List.map_id' ks
abbrev zPSE : List Nat := [0, 1, 2, 3, 4, 5, 6, 7, 8, 9, 10, 11, 12, 13, 14]
abbrev zPSP : List (Nat × List Nat × List Nat) := [(15, [], [])]
attribute [go_sem] zPSE zPSP
theorem NrI.nil {h : Hp} {m1 m2 m3 : Nat} {xs : List (ByteArray × Int)} (e1 : h.H m1 = some (.map [])) (e2 : h.H m2 = some (.map [])) (e3 : h.H m3 = some (.map [])) : NrI h m1 m2 m3 xs 0 [] (fun _ => 0) :=
 ⟨List.nodup_nil, fun k => by simp, e1, e2, e3, fun k hk => by simp at hk, fun k hk => by simp at hk, fun k hk => by simp at hk⟩
theorem g_nearP (d : Nat) (t : LT) (h : Hp) (hb : KC d t) (hd : manyF t ≤ 1000000000000000 ∧ d ≤ 1000) : ACalls Tryz.prog 33 [.agg (encL t)] h (fun r _ => r = .tup [.row 3 (nearR (rdS d t)) none, .v (.int .i64 (rdE d t))]) := by
 have hlen := encL_len t
 have htk : List.take 6 (encL t) = encL t := List.take_of_length_le (Nat.le_of_eq hlen)
 have hdk : List.drop 6 (encL t) = [] := List.drop_of_length_le (Nat.le_of_eq hlen)
 have hck := g_checked d t h hb hd
 unfold rdC at hck
 have hgood := fun he => rd_good (d := d) (t := t) hb he
 have hbad := fun he => rd_bad2 (d := d) (t := t) he
 generalize rdS d t = xs at *
 generalize rdN d t = n at *
 generalize rdE d t = e at *
 have hsl : (xs.map (·.2)).sum = sumL xs := rfl
 rw [hsl] at hck
 refine gE Tryz.func33 rfl (by kernel_rfl) 117 rfl fun c => ?_
 (repeat (first | refine gO rfl ?_ | ((first | refine gM zM31 ?_ | (with_reducible refine wM ?_ ?_) | ((with_reducible refine xR ?_); refine uE 15 zM31 zPSE zPSP 118 rfl (by kernel_rfl) ?_)) <;> ((try with_reducible intro K1 hK1); simp only [go_sem, ↓reduceIte, reduceCtorEq, nA, nB, nC, nD, nE, nF, hlen, htk, hdk] <;> and_intros <;> first | (apply hK1; clear hK1 K1) | (intros; first | omega | decide | (simp_all <;> omega)) | skip))))
 refine hck.mono ?_
 rintro _ h2 rfl
 refine hK1 _ ?_; clear hK1 K1
 (repeat (first | refine gO rfl ?_ | ((first | refine gM zM31 ?_ | (with_reducible refine wM ?_ ?_) | ((with_reducible refine xR ?_); refine uE 15 zM31 zPSE zPSP 118 rfl (by kernel_rfl) ?_)) <;> ((try with_reducible intro K1 hK1); simp only [go_sem, ↓reduceIte, reduceCtorEq, nA, nB, nC, nD, nE, nF] <;> and_intros <;> first | (apply hK1; clear hK1 K1) | (intros; first | omega | decide | (simp_all <;> omega)) | skip))))
 by_cases he : e = 0
 ·subst he
  have hg := hgood rfl
  clear hgood hbad hck
  have hgl := hg.len
  refine awp_cond (t := _) rfl (fun h9 => by simp at h9) (fun _ => ?_)
  (repeat (first | refine gO rfl ?_ | ((first | refine gM zM31 ?_ | (with_reducible refine wM ?_ ?_) | ((with_reducible refine xR ?_); refine uE 15 zM31 zPSE zPSP 118 rfl (by kernel_rfl) ?_)) <;> ((try with_reducible intro K1 hK1); simp only [go_sem, ↓reduceIte, reduceCtorEq, nA, nB, nC, nD, nE, nF] <;> and_intros <;> first | (apply hK1; clear hK1 K1) | (intros; first | omega | decide | (simp_all <;> omega)) | skip))))
  intro m1 hm1 m2 hm2
  have n21 : m2 ≠ m1 := fun e => by rw [e, upd_same] at hm2; cases hm2
  refine hK1 _ ?_; clear hK1 K1
  (repeat (first | refine gO rfl ?_ | ((first | refine gM zM31 ?_ | (with_reducible refine wM ?_ ?_) | ((with_reducible refine xR ?_); refine uE 15 zM31 zPSE zPSP 118 rfl (by kernel_rfl) ?_)) <;> ((try with_reducible intro K1 hK1); simp only [go_sem, ↓reduceIte, reduceCtorEq, nA, nB, nC, nD, nE, nF] <;> and_intros <;> first | (apply hK1; clear hK1 K1) | (intros; first | omega | decide | (simp_all <;> omega)) | skip))))
  intro m3 hm3
  have n32 : m3 ≠ m2 := fun e => by rw [e, upd_same] at hm3; cases hm3
  have n31 : m3 ≠ m1 := fun e => by rw [upd_other _ _ n32, e, upd_same] at hm3; cases hm3
  refine hK1 _ ?_; clear hK1 K1
  have hN0 : NrI ⟨upd (upd (upd h2.H m1 (some (.map []))) m2 (some (.map []))) m3 (some (.map [])), h2.T⟩ m1 m2 m3 xs 0 [] (fun _ => 0) := by
   refine NrI.nil ?_ ?_ (upd_same _ _ _)
   ·show upd _ _ _ _ = _; rw [upd_other _ _ (Ne.symm n31), upd_other _ _ (Ne.symm n21), upd_same]
   ·show upd _ _ _ _ = _; rw [upd_other _ _ (Ne.symm n32), upd_same]
  generalize (⟨upd (upd (upd h2.H m1 (some (.map []))) m2 (some (.map []))) m3 (some (.map [])), h2.T⟩ : Hp) = h3 at *
  (repeat (first | refine gO rfl ?_ | ((first | refine gM zM31 ?_ | (with_reducible refine wM ?_ ?_) | ((with_reducible refine xR ?_); refine uE 15 zM31 zPSE zPSP 118 rfl (by kernel_rfl) ?_)) <;> ((try with_reducible intro K1 hK1); simp only [go_sem, ↓reduceIte, reduceCtorEq, nA, nB, nC, nD, nE, nF] <;> and_intros <;> first | (apply hK1; clear hK1 K1) | (intros; first | omega | decide | (simp_all <;> omega)) | skip))))
  refine awp_loopC (rl false [6, 4, 22, 3, 83]) 0 (fun g s => ∃ (j : Nat) (h4 : Hp) (ks : List ByteArray) (p : ByteArray → Nat), g + j = xs.length ∧ NrI h4 m1 m2 m3 xs j ks p ∧
   s = ⟨((jnk 6 ((.v (.int .i64 xs.length)) :: (.map m1) :: (.map m2) :: (.map m3) :: (jnk 22 ((.row 2 (xs.map encStep) none) :: (.v (.int .i64 xs.length)) :: (.v (.int .i64 j)) :: (jnk 83 [])))))), [], h4⟩) xs.length ⟨0, h3, [], _, by omega, hN0, rfl⟩ ?_
  rintro g _ ⟨j, h4, ks, p, hj, hT, rfl⟩
  (repeat (first | refine gO rfl ?_ | ((first | refine gM zM31 ?_ | (with_reducible refine wM ?_ ?_) | ((with_reducible refine xR ?_); refine uE 15 zM31 zPSE zPSP 118 rfl (by kernel_rfl) ?_)) <;> ((try with_reducible intro K1 hK1); simp only [go_sem, ↓reduceIte, reduceCtorEq, nA, nB, nC, nD, nE, nF] <;> and_intros <;> first | (apply hK1; clear hK1 K1) | (intros; first | omega | decide | (simp_all <;> omega)) | skip))))
  refine awp_cond (t := _) rfl (fun h1 => ?_) (fun h1 => ?_)
  ·simp only [decide_eq_true_eq] at h1
   have hjl : j < xs.length := by omega
   have gx : (xs.map encStep).getD j [] = encStep (xs.getD j default) := getD_enc encStep xs j default hjl
   obtain ⟨q, hq⟩ : ∃ q, (xs.getD j default).1 = q := ⟨_, rfl⟩
   obtain ⟨y, hy⟩ : ∃ y, (xs.getD j default).2 = y := ⟨_, rfl⟩
   have gx2 : (xs.map encStep).getD j [] = [.v (.string q), .v (.int .i64 y)] := by rw [gx, encStep, hq, hy]
   clear gx
   have hM3 := hT.a3
   have hbd := near_bd (xs := xs) (k := q) j (by omega)
   by_cases hk : q ∈ ks
   ·have hG := (mget_ptrs p ks q).1 hk
    have hC := hT.cell q hk
    obtain ⟨n1, n2, n3⟩ := hT.ne q hk
    rw [nCell] at hC
    have hM2 : ∀ X, upd h4.H (p q) X m2 = some (AO.map (intsL (fun k => laF xs k j) ks)) := fun X => by rw [upd_other _ _ (Ne.symm n2)]; exact hT.a2
    have hG2 := mget_ints (fun k => laF xs k j) (ks := ks) (k := q) hk
    have hcl := cntF_le (xs.take j) q
    have hlj : (xs.take j).length ≤ 5000 := by rw [List.length_take]; omega
    obtain ⟨b1, b2, _⟩ := hbd
    have hmore := fun h' => hT.more (h' := h') (Ne.symm n21) n32 hjl (show nm xs j = q from hq) hk
    generalize cntF (List.take j xs) q = cn at *
    generalize apF xs q j = ap at *
    generalize laF xs q j = la at *
    (repeat (first | refine gO rfl ?_ | ((first | refine gM zM31 ?_ | (with_reducible refine wM ?_ ?_) | ((with_reducible refine xR ?_); refine uE 15 zM31 zPSE zPSP 118 rfl (by kernel_rfl) ?_)) <;> ((try with_reducible intro K1 hK1); simp only [go_sem, ↓reduceIte, reduceCtorEq, nA, nB, nC, nD, nE, nF, Int.toNat_natCast, gx2, hM3, hG] <;> and_intros <;> first | (apply hK1; clear hK1 K1) | (intros; first | omega | decide | (simp_all <;> omega)) | skip))))
    refine awp_cond (t := _) rfl (fun h9 => by cases h9) (fun _ => ?_)
    (repeat (first | refine gO rfl ?_ | ((first | refine gM zM31 ?_ | (with_reducible refine wM ?_ ?_) | ((with_reducible refine xR ?_); refine uE 15 zM31 zPSE zPSP 118 rfl (by kernel_rfl) ?_)) <;> ((try with_reducible intro K1 hK1); simp only [go_sem, ↓reduceIte, reduceCtorEq, nA, nB, nC, nD, nE, nF, Int.toNat_natCast, hC, hM2, hG2, upd_same] <;> and_intros <;> first | (apply hK1; clear hK1 K1) | (intros; first | omega | decide | (simp_all <;> omega)) | skip))))
    refine ⟨g - 1, by omega, j + 1, _, ks, p, by omega, hmore _ (upd_same _ _ _) ?_ (fun i a b => ?_), rfl⟩
    ·show upd _ _ _ _ = _; rw [upd_other _ _ n2, upd_same]
    ·show upd _ _ _ _ = _; rw [upd_other _ _ b, upd_other _ _ a]
   ·have hG := (mget_ptrs p ks q).2 hk
    (repeat (first | refine gO rfl ?_ | ((first | refine gM zM31 ?_ | (with_reducible refine wM ?_ ?_) | ((with_reducible refine xR ?_); refine uE 15 zM31 zPSE zPSP 118 rfl (by kernel_rfl) ?_)) <;> ((try with_reducible intro K1 hK1); simp only [go_sem, ↓reduceIte, reduceCtorEq, nA, nB, nC, nD, nE, nF, Int.toNat_natCast, gx2, hM3, hG] <;> and_intros <;> first | (apply hK1; clear hK1 K1) | (intros; first | omega | decide | (simp_all <;> omega)) | skip))))
    refine awp_cond (t := _) rfl (fun _ => ?_) (fun h9 => by cases h9)
    (repeat (first | refine gO rfl ?_ | ((first | refine gM zM31 ?_ | (with_reducible refine wM ?_ ?_) | ((with_reducible refine xR ?_); refine uE 15 zM31 zPSE zPSP 118 rfl (by kernel_rfl) ?_)) <;> ((try with_reducible intro K1 hK1); simp only [go_sem, ↓reduceIte, reduceCtorEq, nA, nB, nC, nD, nE, nF, hM3, hG] <;> and_intros <;> first | (apply hK1; clear hK1 K1) | (intros; first | omega | decide | (simp_all <;> omega)) | skip))))
    intro i hi
    have i1 : m1 ≠ i := fun e => by rw [← e, hT.a1] at hi; cases hi
    have i2 : m2 ≠ i := fun e => by rw [← e, hT.a2] at hi; cases hi
    have i3 : m3 ≠ i := fun e => by rw [← e, hM3] at hi; cases hi
    have q3 : ∀ X, upd h4.H i X m3 = some (AO.map (ptrsL p ks)) := fun X => by rw [upd_other _ _ i3]; exact hM3
    have q1 : ∀ X Y, upd (upd h4.H i X) m3 Y m1 = some (AO.map (intsL (fun k => fiF xs k j) ks)) := fun X Y => by rw [upd_other _ _ (Ne.symm n31), upd_other _ _ i1]; exact hT.a1
    have q2 : ∀ X Y Z, upd (upd (upd h4.H i X) m3 Y) m1 Z m2 = some (AO.map (intsL (fun k => laF xs k j) ks)) := fun X Y Z => by rw [upd_other _ _ n21, upd_other _ _ (Ne.symm n32), upd_other _ _ i2]; exact hT.a2
    simp only [q3]
    refine hK1 _ ?_; clear hK1 K1
    (repeat (first | refine gO rfl ?_ | ((first | refine gM zM31 ?_ | (with_reducible refine wM ?_ ?_) | ((with_reducible refine xR ?_); refine uE 15 zM31 zPSE zPSP 118 rfl (by kernel_rfl) ?_)) <;> ((try with_reducible intro K1 hK1); simp only [go_sem, ↓reduceIte, reduceCtorEq, nA, nB, nC, nD, nE, nF, q1, q2] <;> and_intros <;> first | (apply hK1; clear hK1 K1) | (intros; first | omega | decide | (simp_all <;> omega)) | skip))))
    refine ⟨g - 1, by omega, j + 1, _, ks ++ [q], _, by omega, hT.born hjl (show nm xs j = q from hq) hk hi ?_ (upd_same _ _ _) ?_ ?_ (fun n a b c d => ?_), rfl⟩
    ·show upd _ _ _ _ = _; rw [upd_other _ _ (Ne.symm n21), upd_same]
    ·show upd _ _ _ _ = _; rw [upd_other _ _ n32, upd_other _ _ n31, upd_same]
    ·show upd _ _ _ _ = _; rw [upd_other _ _ (Ne.symm i2), upd_other _ _ (Ne.symm i1), upd_other _ _ (Ne.symm i3), upd_same]
    ·show upd _ _ _ _ = _; rw [upd_other _ _ c, upd_other _ _ b, upd_other _ _ d, upd_other _ _ a]
  ·simp only [decide_eq_false_iff_not] at h1
   have hjl : j = xs.length := by omega
   subst hjl
   clear h1 hj
   (repeat (first | refine gQ rfl ?_ | ((first | refine gM zM31 ?_ | (with_reducible refine wM ?_ ?_) | ((with_reducible refine xR ?_); refine uE 15 zM31 zPSE zPSP 118 rfl (by kernel_rfl) ?_)) <;> ((try with_reducible intro K1 hK1); simp only [go_sem, ↓reduceIte, reduceCtorEq, nA, nB, nC, nD, nE, nF] <;> and_intros <;> first | (apply hK1; clear hK1 K1) | (intros; first | omega | decide | (simp_all <;> omega)) | skip))))
   refine awp_seq ?_
   refine awp_own 13 3 rfl ⟨rfl, rfl⟩ (fun kk hkk => ?_)
   replace hkk : h4.T kk = none := hkk
   (repeat (first | refine gO rfl ?_ | ((first | refine gM zM31 ?_ | (with_reducible refine wM ?_ ?_) | ((with_reducible refine xR ?_); refine uE 15 zM31 zPSE zPSP 118 rfl (by kernel_rfl) ?_)) <;> ((try with_reducible intro K1 hK1); simp only [go_sem, ↓reduceIte, reduceCtorEq, nA, nB, nC, nD, nE, nF] <;> and_intros <;> first | (apply hK1; clear hK1 K1) | (intros; first | omega | decide | (simp_all <;> omega)) | skip))))
   refine (g_keysW m3 _).mono ?_
   rintro _ _ ⟨i, hi, rfl, rfl⟩
   replace hi : h4.H i = none := hi
   have i1 : m1 ≠ i := fun e => by rw [← e, hT.a1] at hi; cases hi
   have i2 : m2 ≠ i := fun e => by rw [← e, hT.a2] at hi; cases hi
   have i3 : m3 ≠ i := fun e => by rw [← e, hT.a3] at hi; cases hi
   refine hK1 _ ?_; clear hK1 K1
   (repeat (first | refine gO rfl ?_ | ((first | refine gM zM31 ?_ | (with_reducible refine wM ?_ ?_) | ((with_reducible refine xR ?_); refine uE 15 zM31 zPSE zPSP 118 rfl (by kernel_rfl) ?_)) <;> ((try with_reducible intro K1 hK1); simp only [go_sem, ↓reduceIte, reduceCtorEq, nA, nB, nC, nD, nE, nF] <;> and_intros <;> first | (apply hK1; clear hK1 K1) | (intros; first | omega | decide | (simp_all <;> omega)) | skip))))
   have hmem : ∀ k, k ∈ ks ↔ k ∈ xs.map (·.1) := fun k => by have := hT.mem k; rwa [List.take_length] at this
   refine (g_sortedW i m3 (ptrsL p ks) (xs.map (·.1)) _ (upd_same _ _ _) ?_ ?_ ?_ ?_).mono ?_
   ·show upd h4.H i _ m3 = _
    rw [upd_other _ _ i3]; exact hT.a3
   ·rw [ptrs_keys]; exact hmem
   ·rw [ptrs_keys]
    intro k hk
    obtain ⟨x, hx, rfl⟩ := List.mem_map.1 ((hmem k).1 hk)
    have := hg.item x hx; omega
   ·have h9 := nodup_len ks (xs.map (·.1)) hT.nd fun k hk => (hmem k).1 hk
    simp only [List.length_map] at h9
    simp only [ptrsL, List.length_map]; omega
   rintro _ hz ⟨rfl, hh⟩; apply hK1; clear hK1 K1; rw [hh]; clear hh hz
   have hol := onceS_len (xs.map (·.1))
   have hom := fun k => onceS_mem (xs.map (·.1)) k
   rw [List.length_map] at hol
   have hpr : nearR xs = (onceS (xs.map (·.1))).map (encNr xs) := rfl
   rw [hpr]
   generalize onceS (xs.map (·.1)) = N at *
   (repeat (first | refine gO rfl ?_ | ((first | refine gM zM31 ?_ | (with_reducible refine wM ?_ ?_) | ((with_reducible refine xR ?_); refine uE 15 zM31 zPSE zPSP 118 rfl (by kernel_rfl) ?_)) <;> ((try with_reducible intro K1 hK1); simp only [go_sem, ↓reduceIte, reduceCtorEq, nA, nB, nC, nD, nE, nF] <;> and_intros <;> first | (apply hK1; clear hK1 K1) | (intros; first | omega | decide | (simp_all <;> omega)) | skip))))
   refine awp_loopC (rl false [6, 4, 3, 1, 73, 3, 28]) 0 (fun g s => ∃ j : Nat, g + j = N.length ∧
    s = ⟨((jnk 6 ((.v (.int .i64 xs.length)) :: (.map m1) :: (.map m2) :: (.map m3) :: (jnk 3 ((.row 3 ((N.map (encNr xs)).take j) (some kk)) :: (jnk 73 ((.row 1 (N.map encS) none) :: (.v (.int .i64 N.length)) :: (.v (.int .i64 j)) :: (jnk 28 [])))))))),
     [], ⟨upd h4.H i (some (.cells [.map m3])), upd h4.T kk (some (.tail j))⟩⟩) N.length ⟨0, by omega, rfl⟩ ?_
   rintro g _ ⟨j, hj, rfl⟩
   have hTq : upd h4.T kk (some (TO.tail j)) kk = some (.tail j) := upd_same _ _ _
   have hlj : ((N.map (encNr xs)).take j).length = j := by simp; omega
   (repeat (first | refine gO rfl ?_ | ((first | refine gM zM31 ?_ | (with_reducible refine wM ?_ ?_) | ((with_reducible refine xR ?_); refine uE 15 zM31 zPSE zPSP 118 rfl (by kernel_rfl) ?_)) <;> ((try with_reducible intro K1 hK1); simp only [go_sem, ↓reduceIte, reduceCtorEq, nA, nB, nC, nD, nE, nF] <;> and_intros <;> first | (apply hK1; clear hK1 K1) | (intros; first | omega | decide | (simp_all <;> omega)) | skip))))
   refine awp_cond (t := _) rfl (fun h1 => ?_) (fun h1 => ?_)
   ·simp only [decide_eq_true_eq] at h1
    have hjl : j < N.length := by omega
    have gx : (N.map encS).getD j [] = encS (N.getD j default) := getD_enc encS N j default hjl
    have tx : (N.map (encNr xs)).take (j + 1) = (N.map (encNr xs)).take j ++ [encNr xs (N.getD j default)] := by
     rw [List.take_add_one, List.getElem?_map, List.getElem?_eq_getElem hjl, List.getD_eq_getElem?_getD, List.getElem?_eq_getElem hjl]; rfl
    have hk : N.getD j default ∈ ks := (hmem _).2 ((hom _).1 (getD_mem' N j default hjl))
    generalize N.getD j default = k at gx tx hk
    have r3 : upd h4.H i (some (AO.cells [.map m3])) m3 = some (.map (ptrsL p ks)) := by rw [upd_other _ _ i3]; exact hT.a3
    have r1 : upd h4.H i (some (AO.cells [.map m3])) m1 = some (.map (intsL (fun k => fiF xs k xs.length) ks)) := by rw [upd_other _ _ i1]; exact hT.a1
    have r2 : upd h4.H i (some (AO.cells [.map m3])) m2 = some (.map (intsL (fun k => laF xs k xs.length) ks)) := by rw [upd_other _ _ i2]; exact hT.a2
    have hG := (mget_ptrs p ks k).1 hk
    have hG1 := mget_ints (fun k => fiF xs k xs.length) (ks := ks) (k := k) hk
    have hG2 := mget_ints (fun k => laF xs k xs.length) (ks := ks) (k := k) hk
    have hpi : p k ≠ i := fun e => by have := hT.cell k hk; rw [e, hi] at this; cases this
    have hC : upd h4.H i (some (AO.cells [.map m3])) (p k) = some (.cells (nCell xs xs.length k)) := by rw [upd_other _ _ hpi]; exact hT.cell k hk
    rw [nCell, List.take_length] at hC
    obtain ⟨b1, b2, _⟩ := near_bd (xs := xs) (k := k) xs.length (Nat.le_refl _)
    have hle : encNr xs k = [.v (.string k), .v (.int .i64 (cntF xs k)), .v (.int .i64 (min (apF xs k xs.length) ((fiF xs k xs.length : Int) + xs.length - laF xs k xs.length - 1)))] := rfl
    rw [hle] at tx
    generalize cntF xs k = cn at *
    generalize apF xs k xs.length = ap at *
    generalize laF xs k xs.length = la at *
    generalize fiF xs k xs.length = fi at *
    (repeat (first | refine gO rfl ?_ | ((first | refine gM zM31 ?_ | (with_reducible refine wM ?_ ?_) | ((with_reducible refine xR ?_); refine uE 15 zM31 zPSE zPSP 118 rfl (by kernel_rfl) ?_)) <;> ((try with_reducible intro K1 hK1); simp only [go_sem, ↓reduceIte, reduceCtorEq, nA, nB, nC, nD, nE, nF, Int.toNat_natCast, gx, encS, r1, r2, r3, hG, hG1, hG2, hC, hTq, hlj] <;> and_intros <;> first | (apply hK1; clear hK1 K1) | (intros; first | omega | decide | (simp_all <;> omega)) | skip))))
    exact ⟨g - 1, by omega, j + 1, by omega, by rw [tx]; rfl⟩
   ·simp only [decide_eq_false_iff_not] at h1
    have hjl : j = N.length := by omega
    subst hjl
    rw [show (N.map (encNr xs)).take N.length = N.map (encNr xs) from List.take_of_length_le (by simp)] at *
    (repeat (first | refine gO rfl ?_ | ((first | refine gM zM31 ?_ | (with_reducible refine wM ?_ ?_) | ((with_reducible refine xR ?_); refine uE 15 zM31 zPSE zPSP 118 rfl (by kernel_rfl) ?_)) <;> ((try with_reducible intro K1 hK1); simp only [go_sem, ↓reduceIte, reduceCtorEq, nA, nB, nC, nD, nE, nF] <;> and_intros <;> first | (apply hK1; clear hK1 K1) | (intros; first | omega | decide | (simp_all <;> omega)) | skip))))
    simp only [Tryz.results33, go_sem, ↓reduceIte, reduceCtorEq, nA, nB, nC, nD, nE, nF]
    exact ⟨_, _, Weak.tup1 (Weak.row _ _ _) (Weak.refl _), Hp.le.refl _, rfl⟩
 ·rw [hbad he] at *
  rw [nearR_nil]
  refine awp_cond (t := _) rfl (fun _ => ?_) (fun h9 => by simp [he] at h9)
  (repeat (first | refine gO rfl ?_ | ((first | refine gM zM31 ?_ | (with_reducible refine wM ?_ ?_) | ((with_reducible refine xR ?_); refine uE 15 zM31 zPSE zPSP 118 rfl (by kernel_rfl) ?_)) <;> ((try with_reducible intro K1 hK1); simp only [go_sem, ↓reduceIte, reduceCtorEq, nA, nB, nC, nD, nE, nF] <;> and_intros <;> first | (apply hK1; clear hK1 K1) | (intros; first | omega | decide | (simp_all <;> omega)) | skip))))
  simp only [Tryz.results33, go_sem, ↓reduceIte, reduceCtorEq, nA, nB, nC, nD, nE, nF]
  exact ⟨_, _, Weak.tup1 (Weak.nil 3 0 0 ⟨rfl, rfl⟩) (Weak.refl _), Hp.le.refl _, rfl⟩
theorem g_nearR (xs : List (ByteArray × Int)) (h : Hp) (hg : GoodS xs) : ACalls Tryz.prog 35 [.row 2 (xs.map encStep) none] h (fun r _ => r = .row 3 (nearR xs) none) := by
 have hgl := hg.len
 have hgn := List.length_pos_iff.2 hg.ne
 refine gE Tryz.func35 rfl (by kernel_rfl) 66 rfl fun c => ?_
 (repeat (first | refine gQ rfl ?_ | (refine gM zM32 fun K1 hK1 => ?_; simp only [go_sem, ↓reduceIte, reduceCtorEq, nA, nB, nC, nD, nE, nF] <;> and_intros <;> first | (apply hK1; clear hK1 K1) | (intros; first | omega | decide | (simp_all <;> omega)) | skip)))
 refine awp_seq ?_
 refine awp_own 3 3 rfl ⟨rfl, rfl⟩ (fun kk hkk => ?_)
 replace hkk : h.T kk = none := hkk
 (repeat (first | refine gO rfl ?_ | (refine gM zM32 fun K1 hK1 => ?_; simp only [go_sem, ↓reduceIte, reduceCtorEq, nA, nB, nC, nD, nE, nF] <;> and_intros <;> first | (apply hK1; clear hK1 K1) | (intros; first | omega | decide | (simp_all <;> omega)) | skip)))
 refine (g_itemsOf xs _ hgn hgl).mono ?_
 rintro _ h2 ⟨rfl, hle⟩
 have hT2 : h2.T kk = some (.tail 0) := by
  rcases hle.T kk with e | e
  ·replace e : upd h.T kk (some (TO.tail 0)) kk = none := e
   rw [upd_same] at e; cases e
  ·rw [← e]; exact upd_same _ _ _
 refine hK1 _ ?_; clear hK1 K1
 have hol := onceS_len (xs.map (·.1))
 have hom := fun k => onceS_mem (xs.map (·.1)) k
 rw [List.length_map] at hol
 have hpr : nearR xs = (onceS (xs.map (·.1))).map (encNr xs) := rfl
 rw [hpr]
 generalize onceS (xs.map (·.1)) = N at *
 (repeat (first | refine gO rfl ?_ | (refine gM zM32 fun K1 hK1 => ?_; simp only [go_sem, ↓reduceIte, reduceCtorEq, nA, nB, nC, nD, nE, nF] <;> and_intros <;> first | (apply hK1; clear hK1 K1) | (intros; first | omega | decide | (simp_all <;> omega)) | skip)))
 refine awp_loopC (rl false [0, 1, 2, 1, 7, 3, 53]) 0 (fun g s => ∃ (j : Nat) (h3 : Hp), g + j = N.length ∧ h3.T kk = some (.tail j) ∧
  s = ⟨((.row 2 (xs.map encStep) none) :: AV.junk :: AV.junk :: ((.row 3 ((N.map (encNr xs)).take j) (some kk)) :: (jnk 7 ((.row 1 (N.map encS) none) :: (.v (.int .i64 N.length)) :: (.v (.int .i64 j)) :: (jnk 53 []))))), [], h3⟩) N.length ⟨0, h2, by omega, hT2, rfl⟩ ?_
 rintro g _ ⟨j, h3, hj, hT3, rfl⟩
 have hlj : ((N.map (encNr xs)).take j).length = j := by simp; omega
 (repeat (first | refine gO rfl ?_ | (refine gM zM32 fun K1 hK1 => ?_; simp only [go_sem, ↓reduceIte, reduceCtorEq, nA, nB, nC, nD, nE, nF] <;> and_intros <;> first | (apply hK1; clear hK1 K1) | (intros; first | omega | decide | (simp_all <;> omega)) | skip)))
 refine awp_cond (t := _) rfl (fun h1 => ?_) (fun h1 => ?_)
 ·simp only [decide_eq_true_eq] at h1
  have hjl : j < N.length := by omega
  have gx : (N.map encS).getD j [] = encS (N.getD j default) := getD_enc encS N j default hjl
  have tx : (N.map (encNr xs)).take (j + 1) = (N.map (encNr xs)).take j ++ [encNr xs (N.getD j default)] := by
   rw [List.take_add_one, List.getElem?_map, List.getElem?_eq_getElem hjl, List.getD_eq_getElem?_getD, List.getElem?_eq_getElem hjl]; rfl
  have hk : N.getD j default ∈ xs.map (·.1) := (hom _).1 (getD_mem' N j default hjl)
  generalize N.getD j default = k at gx tx hk
  (repeat (first | refine gO rfl ?_ | (refine gM zM32 fun K1 hK1 => ?_; simp only [go_sem, ↓reduceIte, reduceCtorEq, nA, nB, nC, nD, nE, nF, Int.toNat_natCast, gx, encS] <;> and_intros <;> first | (apply hK1; clear hK1 K1) | (intros; first | omega | decide | (simp_all <;> omega)) | skip)))
  refine awp_loopC (rl false [0, 1, 2, 1, 1, 2, 4, 3, 7, 3, 43]) 1 (fun g2 s => ∃ i : Nat, g2 + i = xs.length ∧
   s = ⟨((.row 2 (xs.map encStep) none) :: AV.junk :: AV.junk :: ((.row 3 ((N.map (encNr xs)).take j) (some kk)) :: AV.junk :: ((.v (.string k)) :: (.loc 0 0) :: (jnk 4 ((.row 1 (N.map encS) none) :: (.v (.int .i64 N.length)) :: (.v (.int .i64 j)) :: (jnk 7 ((.row 2 (xs.map encStep) none) :: (.v (.int .i64 xs.length)) :: (.v (.int .i64 i)) :: (jnk 43 [])))))))),
    [[.v (.string k), .v (.int .i64 (cntF (xs.take i) k)), .v (.int .i64 (refA xs k i))]], h3⟩) xs.length ⟨0, by omega, rfl⟩ ?_
  rintro g2 _ ⟨i, hi, rfl⟩
  (repeat (first | refine gO rfl ?_ | (refine gM zM32 fun K1 hK1 => ?_; simp only [go_sem, ↓reduceIte, reduceCtorEq, nA, nB, nC, nD, nE, nF] <;> and_intros <;> first | (apply hK1; clear hK1 K1) | (intros; first | omega | decide | (simp_all <;> omega)) | skip)))
  refine awp_cond (t := _) rfl (fun h5 => ?_) (fun h5 => ?_)
  ·simp only [decide_eq_true_eq] at h5
   have hil : i < xs.length := by omega
   have gy : (xs.map encStep).getD i [] = encStep (xs.getD i default) := getD_enc encStep xs i default hil
   have hcl := cntF_le (xs.take i) k
   have hlt : (xs.take i).length = i := by rw [List.length_take]; omega
   rw [hlt] at hcl
   have hcy := fun e => cntF_yes (xs := xs) hil (k := k) e
   have hcn := fun e => cntF_no (xs := xs) hil (k := k) e
   have hry : nm xs i = k → refA xs k (i + 1) = min (refA xs k i) ((ndF xs k i : Int) - 1) := fun e => by rw [refA, if_pos e]
   have hrn : nm xs i ≠ k → refA xs k (i + 1) = refA xs k i := fun e => by rw [refA, if_neg e]
   have hnm : nm xs i = (xs.getD i default).1 := rfl
   have hbq : ((xs.getD i default).1 != k) = !decide ((xs.getD i default).1 = k) := by rw [bne, ba_beq]
   generalize xs.getD i default = y at gy hcy hcn hbq hnm
   generalize cntF (xs.take i) k = cn at *
   generalize refA xs k i = rf at *
   (repeat (first | refine gO rfl ?_ | (refine gM zM32 fun K1 hK1 => ?_; simp only [go_sem, ↓reduceIte, reduceCtorEq, nA, nB, nC, nD, nE, nF, Int.toNat_natCast, gy, encStep] <;> and_intros <;> first | (apply hK1; clear hK1 K1) | (intros; first | omega | decide | (simp_all <;> omega)) | skip)))
   refine awp_cond (t := _) rfl (fun h6 => ?_) (fun h6 => ?_)
   ·have h7 : y.1 ≠ k := by simpa [bne, ba_beq] using h6
    (repeat (first | refine gO rfl ?_ | (refine gM zM32 fun K1 hK1 => ?_; simp only [go_sem, ↓reduceIte, reduceCtorEq, nA, nB, nC, nD, nE, nF] <;> and_intros <;> first | (apply hK1; clear hK1 K1) | (intros; first | omega | decide | (simp_all <;> omega)) | skip)))
    exact ⟨g2 - 1, by omega, i + 1, by omega, by rw [hcn h7, hrn (by rw [hnm]; exact h7)]; rfl⟩
   ·have h7 : y.1 = k := by simpa [bne, ba_beq] using h6
    have h8 : nm xs i = k := by rw [hnm]; exact h7
    have hry2 := hry h8
    have hcy2 := hcy h7
    clear hry hrn hcy hcn hbq
    (repeat (first | refine gO rfl ?_ | (refine gM zM32 fun K1 hK1 => ?_; simp only [go_sem, ↓reduceIte, reduceCtorEq, nA, nB, nC, nD, nE, nF] <;> and_intros <;> first | (apply hK1; clear hK1 K1) | (intros; first | omega | decide | (simp_all <;> omega)) | skip)))
    refine awp_loopC (rl false [0, 1, 2, 1, 1, 3, 1, 1, 1, 3, 7, 3, 43]) 1 (fun g3 s => ∃ e : Nat, g3 + e = xs.length ∧ 1 ≤ e ∧ (∀ f, 1 ≤ f → f < e → nm xs ((i + f) % xs.length) ≠ k) ∧
     s = ⟨((.row 2 (xs.map encStep) none) :: AV.junk :: AV.junk :: ((.row 3 ((N.map (encNr xs)).take j) (some kk)) :: AV.junk :: ((.v (.string k)) :: (.loc 0 0) :: (.v (.int .i64 i)) :: AV.junk :: ((.v (.int .i64 e)) :: AV.junk :: ((.row 1 (N.map encS) none) :: (.v (.int .i64 N.length)) :: (.v (.int .i64 j)) :: (jnk 7 ((.row 2 (xs.map encStep) none) :: (.v (.int .i64 xs.length)) :: (.v (.int .i64 i)) :: (jnk 43 [])))))))),
      [[.v (.string k), .v (.int .i64 (cn + 1)), .v (.int .i64 rf)]], h3⟩) (xs.length - 1) ⟨1, by omega, by omega, fun f a b => by omega, rfl⟩ ?_
    rintro g3 _ ⟨e, he, he1, hno, rfl⟩
    have hm : (i + e) % xs.length < xs.length := Nat.mod_lt _ hgn
    have emd : ((i : Int) + (e : Int)).tmod (xs.length : Int) = (((i + e) % xs.length : Nat) : Int) := by rw [← Int.natCast_add]; rfl
    have gz : (xs.map encStep).getD ((i + e) % xs.length) [] = encStep (xs.getD ((i + e) % xs.length) default) := getD_enc encStep xs _ default hm
    have hnz : nm xs ((i + e) % xs.length) = (xs.getD ((i + e) % xs.length) default).1 := rfl
    have hdn := fun a => nd_of (xs := xs) (k := k) (i := i) (d := e) he1 (by omega) a hno
    generalize hmq : (i + e) % xs.length = mq at *
    generalize xs.getD mq default = z at gz hnz
    have hle9 : decide ((e : Int) ≤ (xs.length : Int)) = true := by simp only [decide_eq_true_eq]; omega
    have hne0 : (xs.length : Int) ≠ 0 := by omega
    (repeat (first | refine gO rfl ?_ | (refine gM zM32 fun K1 hK1 => ?_; simp only [go_sem, ↓reduceIte, reduceCtorEq, nA, nB, nC, nD, nE, nF, hle9] <;> and_intros <;> first | (apply hK1; clear hK1 K1) | (intros; first | omega | decide | (simp_all <;> omega)) | skip)))
    refine awp_cond (t := _) rfl (fun _ => ?_) (fun h9 => by cases h9)
    (repeat (first | refine gO rfl ?_ | (refine gM zM32 fun K1 hK1 => ?_; simp only [go_sem, ↓reduceIte, reduceCtorEq, nA, nB, nC, nD, nE, nF, emd, Int.toNat_natCast, gz, encStep] <;> and_intros <;> first | (apply hK1; clear hK1 K1) | (intros; first | omega | decide | (simp_all <;> omega)) | skip)))
    refine awp_cond (t := _) rfl (fun h9 => ?_) (fun h9 => ?_)
    ·rw [ba_beq, decide_eq_true_eq] at h9
     have hd := hdn (by rw [hnz]; exact h9)
     (repeat (first | refine gO rfl ?_ | (refine gM zM32 fun K1 hK1 => ?_; simp only [go_sem, ↓reduceIte, reduceCtorEq, nA, nB, nC, nD, nE, nF] <;> and_intros <;> first | (apply hK1; clear hK1 K1) | (intros; first | omega | decide | (simp_all <;> omega)) | skip)))
     exact ⟨g2 - 1, by omega, i + 1, by omega, by rw [hcy2, hry2, hd]; rfl⟩
    ·rw [ba_beq, decide_eq_false_iff_not] at h9
     have hel : e ≠ xs.length := fun e9 => by
      rw [e9, Nat.add_mod_right, Nat.mod_eq_of_lt hil] at hmq
      rw [← hmq] at hnz
      exact h9 (by rw [← hnz]; exact h8)
     (repeat (first | refine gO rfl ?_ | (refine gM zM32 fun K1 hK1 => ?_; simp only [go_sem, ↓reduceIte, reduceCtorEq, nA, nB, nC, nD, nE, nF] <;> and_intros <;> first | (apply hK1; clear hK1 K1) | (intros; first | omega | decide | (simp_all <;> omega)) | skip)))
     refine ⟨g3 - 1, by omega, e + 1, by omega, by omega, fun f a b => ?_, rfl⟩
     by_cases e9 : f = e
     ·rw [e9, hmq, hnz]; exact h9
     ·exact hno f a (by omega)
  ·simp only [decide_eq_false_iff_not] at h5
   have hil : i = xs.length := by omega
   subst hil
   have hne := near_eq hk
   rw [List.take_length] at *
   have hle : encNr xs k = [.v (.string k), .v (.int .i64 (cntF xs k)), .v (.int .i64 (refA xs k xs.length))] := by rw [encNr, hne]
   rw [hle] at tx
   (repeat (first | refine gO rfl ?_ | (refine gM zM32 fun K1 hK1 => ?_; simp only [go_sem, ↓reduceIte, reduceCtorEq, nA, nB, nC, nD, nE, nF, hT3, hlj] <;> and_intros <;> first | (apply hK1; clear hK1 K1) | (intros; first | omega | decide | (simp_all <;> omega)) | skip)))
   exact ⟨g - 1, by omega, j + 1, _, by omega, upd_same _ _ _, by rw [tx]; rfl⟩
 ·simp only [decide_eq_false_iff_not] at h1
  have hjl : j = N.length := by omega
  subst hjl
  rw [show (N.map (encNr xs)).take N.length = N.map (encNr xs) from List.take_of_length_le (by simp)] at *
  (repeat (first | refine gO rfl ?_ | (refine gM zM32 fun K1 hK1 => ?_; simp only [go_sem, ↓reduceIte, reduceCtorEq, nA, nB, nC, nD, nE, nF] <;> and_intros <;> first | (apply hK1; clear hK1 K1) | (intros; first | omega | decide | (simp_all <;> omega)) | skip)))
  simp only [Tryz.results35, go_sem, ↓reduceIte, reduceCtorEq, nA, nB, nC, nD, nE, nF]
  exact ⟨_, _, Weak.row _ _ _, Hp.le.refl _, rfl⟩
abbrev Wn := ByteArray × Int × Int
def encW (x : Wn) : List AV := [.v (.string x.1), .v (.int .i64 x.2.1), .v (.int .i64 x.2.2)]
def wNames : List ByteArray := [⟨#[105, 97]⟩, ⟨#[105, 98]⟩, ⟨#[105, 99]⟩, ⟨#[105, 100]⟩]
def WOk (x : Wn) : Prop := x.1.size ≤ 2 ∧ (-5000000000000000 ≤ x.2.1 ∧ x.2.1 ≤ 5000000000000000) ∧ (-5000000000000000 ≤ x.2.2 ∧ x.2.2 ≤ 5000000000000000)
theorem encW_z (ws : List Wn) : ∀ y ∈ ws.map encW, y.length = 3 := fun y hy => by obtain ⟨x, _, rfl⟩ := List.mem_map.1 hy; rfl
theorem g_want (i : Nat) (l : List Int) (a : Int) (h : Hp) (hl : SOk l) (ha : 0 ≤ a ∧ a ≤ 100000000) :
  ACalls Tryz.prog 32 [.ptr i 0] (h.st i l a) (fun r h' => ∃ (ws : List Wn) (a' : Int), ws.length ≤ 4 ∧ (∀ x ∈ ws, WOk x) ∧ (a ≤ a' ∧ a' ≤ a + 100) ∧ r = .row 3 (ws.map encW) none ∧ h' = h.st i l a') := by
 refine gE Tryz.func32 rfl (by kernel_rfl) 61 rfl fun c => ?_
 (repeat (first | refine gQ rfl ?_ | (refine gR fun K1 hK1 => ?_; simp only [go_sem, ↓reduceIte, reduceCtorEq, nA, nB, nC, nD, nE, nF] <;> and_intros <;> first | (apply hK1; clear hK1 K1) | (intros; first | omega | decide | (simp_all <;> omega)) | skip)))
 refine awp_seq ?_
 refine awp_ownA 3 3 rfl ⟨rfl, rfl⟩ (fun k hk => ?_)
 replace hk : h.T k = none := hk
 (repeat (first | refine gO rfl ?_ | (refine gR fun K1 hK1 => ?_; simp only [go_sem, ↓reduceIte, reduceCtorEq, nA, nB, nC, nD, nE, nF] <;> and_intros <;> first | (apply hK1; clear hK1 K1) | (intros; first | omega | decide | (simp_all <;> omega)) | skip)))
 refine (g_range i l a 0 4 ⟨h.H, upd h.T k (some (.cont 3 []))⟩ hl (by omega) (by omega) (by omega) (by omega)).mono ?_; rintro _ _ ⟨n, hn, rfl, rfl⟩; apply hK1; clear hK1 K1
 obtain ⟨m, rfl⟩ : ∃ m : Nat, n = m := ⟨n.toNat, by omega⟩
 have hN : List.take m [[AV.v (.string ⟨#[105, 97]⟩)], [AV.v (.string ⟨#[105, 98]⟩)], [AV.v (.string ⟨#[105, 99]⟩)], [AV.v (.string ⟨#[105, 100]⟩)]] = (wNames.take m).map encS := by rw [List.map_take]; rfl
 have hNl : (wNames.take m).length ≤ 4 := by rw [List.length_take]; show min m 4 ≤ 4; omega
 have hNs : ∀ x ∈ wNames.take m, x.size ≤ 2 := fun x hx => by
  have := List.mem_of_mem_take hx
  simp only [wNames, List.mem_cons, List.not_mem_nil, or_false] at this
  rcases this with rfl | rfl | rfl | rfl <;> decide
 (repeat (first | refine gO rfl ?_ | (refine gR fun K1 hK1 => ?_; simp only [go_sem, ↓reduceIte, reduceCtorEq, nA, nB, nC, nD, nE, nF, Int.toNat_natCast, Int.toNat_zero, Nat.sub_zero, List.drop_zero, Option.toList_none, Option.toList_some, List.append_eq, List.nil_append, List.cons_append, hN, List.length_map] <;> and_intros <;> first | (apply hK1; clear hK1 K1) | (intros; first | omega | decide | (simp_all <;> omega)) | skip)))
 generalize wNames.take m = N at *
 refine awp_loopC (rl false [0, 1, 2, 1, 6, 3, 49]) 0 (fun g s => ∃ (j : Nat) (ws : List Wn) (a' : Int), g + j = N.length ∧ ws.length = j ∧ (∀ x ∈ ws, WOk x) ∧ (a ≤ a' ∧ a' ≤ a + 1 + 2 * j) ∧
  s = ⟨((.ptr i 0) :: AV.junk :: AV.junk :: ((.arr 3 k j) :: (jnk 6 ((.row 1 (N.map encS) none) :: (.v (.int .i64 N.length)) :: (.v (.int .i64 j)) :: (jnk 49 []))))), [], (Hp.mk h.H (upd h.T k (some (.cont 3 (ws.map encW))))).st i l a'⟩) N.length ⟨0, [], a + 1, by omega, rfl, by simp, by omega, rfl⟩ ?_
 rintro g _ ⟨j, ws, a1, hj, hwl, hwo, ha1, rfl⟩
 have hTq : ∀ a2, ((Hp.mk h.H (upd h.T k (some (.cont 3 (ws.map encW))))).st i l a2).T k = some (TO.cont 3 (ws.map encW)) := fun a2 => upd_same _ _ _
 have hlw : (ws.map encW).length = j := by simpa using hwl
 have htt : ∀ a2 X, (Hp.mk ((Hp.mk h.H (upd h.T k (some (.cont 3 (ws.map encW))))).st i l a2).H (upd ((Hp.mk h.H (upd h.T k (some (.cont 3 (ws.map encW))))).st i l a2).T k X)) = (Hp.mk h.H (upd h.T k X)).st i l a2 := fun a2 X => by simp only [Hp.st, upd_upd]
 (repeat (first | refine gO rfl ?_ | (refine gR fun K1 hK1 => ?_; simp only [go_sem, ↓reduceIte, reduceCtorEq, nA, nB, nC, nD, nE, nF] <;> and_intros <;> first | (apply hK1; clear hK1 K1) | (intros; first | omega | decide | (simp_all <;> omega)) | skip)))
 refine awp_cond (t := _) rfl (fun h1 => ?_) (fun h1 => ?_)
 ·simp only [decide_eq_true_eq] at h1
  have hjl : j < N.length := by omega
  have gx : (N.map encS).getD j [] = encS (N.getD j default) := getD_enc encS N j default hjl
  have hqs : (N.getD j default).size ≤ 2 := hNs _ (by rw [List.getD_eq_getElem?_getD, List.getElem?_eq_getElem hjl]; exact List.getElem_mem hjl)
  generalize N.getD j default = q at gx hqs
  (repeat (first | refine gO rfl ?_ | (refine gR fun K1 hK1 => ?_; simp only [go_sem, ↓reduceIte, reduceCtorEq, nA, nB, nC, nD, nE, nF, Int.toNat_natCast, gx, encS, hTq, hlw] <;> and_intros <;> first | (apply hK1; clear hK1 K1) | (intros; first | omega | decide | (simp_all <;> omega)) | skip)))
  refine (g_pick i l a1 [1, 1, 2, 3] none _ hl (by omega) (by simp)).mono ?_; rintro _ _ ⟨x, hx, rfl, rfl⟩; apply hK1; clear hK1 K1
  (repeat (first | refine gO rfl ?_ | (refine gR fun K1 hK1 => ?_; simp only [go_sem, ↓reduceIte, reduceCtorEq, nA, nB, nC, nD, nE, nF, hTq, hlw] <;> and_intros <;> first | (apply hK1; clear hK1 K1) | (intros; first | omega | decide | (simp_all <;> omega)) | skip)))
  refine (g_pick i l (a1 + 1) [0, 1, 1, 2, 4] none _ hl (by omega) (by simp)).mono ?_; rintro _ _ ⟨y, hy, rfl, rfl⟩; apply hK1; clear hK1 K1
  (repeat (first | refine gO rfl ?_ | (refine gR fun K1 hK1 => ?_; simp only [go_sem, ↓reduceIte, reduceCtorEq, nA, nB, nC, nD, nE, nF, hTq, hlw, htt] <;> and_intros <;> first | (apply hK1; clear hK1 K1) | (intros; first | omega | decide | (simp_all <;> omega)) | skip)))
  refine ⟨g - 1, by omega, j + 1, ws ++ [(q, x, y)], a1 + 1 + 1, by omega, by simp [hwl], fun z hz => ?_, by omega, ?_⟩
  ·rcases List.mem_append.1 hz with h9 | h9
   ·exact hwo z h9
   ·rw [List.mem_singleton.1 h9]
    simp only [List.mem_cons, List.not_mem_nil, or_false] at hx hy
    exact ⟨hqs, ⟨by show _ ≤ x; omega, by show x ≤ _; omega⟩, ⟨by show _ ≤ y; omega, by show y ≤ _; omega⟩⟩
  ·rw [List.map_append]; rfl
 ·simp only [decide_eq_false_iff_not] at h1
  obtain rfl : j = N.length := by omega
  clear hj h1
  have hnil : ws.map encW = [] → ws = [] := fun e => List.map_eq_nil_iff.1 e
  (repeat (first | refine gQ rfl ?_ | (refine gR fun K1 hK1 => ?_; simp only [go_sem, ↓reduceIte, reduceCtorEq, nA, nB, nC, nD, nE, nF] <;> and_intros <;> first | (apply hK1; clear hK1 K1) | (intros; first | omega | decide | (simp_all <;> omega)) | skip)))
  refine awp_seqJ (rl false [3, 1, 58]) 0 (fun s => ∃ (ws2 : List Wn) (a2 : Int), ws2.length = N.length ∧ (∀ x ∈ ws2, WOk x) ∧ (a ≤ a2 ∧ a2 ≤ a + 50) ∧
   s = ⟨((jnk 3 ((.arr 3 k N.length) :: (jnk 58 [])))), [], (Hp.mk h.H (upd h.T k (some (.cont 3 (ws2.map encW))))).st i l a2⟩) ?_ ?_
  ·by_cases hn0 : N.length = 0
   ·have hd0 : decide ((0 : Int) < (N.length : Int)) = false := by simp only [decide_eq_false_iff_not]; omega
    (repeat (first | refine gO rfl ?_ | (refine gR fun K1 hK1 => ?_; simp only [go_sem, ↓reduceIte, reduceCtorEq, nA, nB, nC, nD, nE, nF, hd0] <;> and_intros <;> first | (apply hK1; clear hK1 K1) | (intros; first | omega | decide | (simp_all <;> omega)) | skip)))
    refine awp_cond (t := _) rfl (fun h9 => by cases h9) (fun _ => ?_)
    (repeat (first | refine gO rfl ?_ | (refine gR fun K1 hK1 => ?_; simp only [go_sem, ↓reduceIte, reduceCtorEq, nA, nB, nC, nD, nE, nF] <;> and_intros <;> first | (apply hK1; clear hK1 K1) | (intros; first | omega | decide | (simp_all <;> omega)) | skip)))
    exact ⟨ws, a1, hwl, hwo, by omega, rfl⟩
   ·have hd0 : decide ((0 : Int) < (N.length : Int)) = true := by simp only [decide_eq_true_eq]; omega
    (repeat (first | refine gO rfl ?_ | (refine gR fun K1 hK1 => ?_; simp only [go_sem, ↓reduceIte, reduceCtorEq, nA, nB, nC, nD, nE, nF, hd0] <;> and_intros <;> first | (apply hK1; clear hK1 K1) | (intros; first | omega | decide | (simp_all <;> omega)) | skip)))
    refine (g_flip i l a1 12 _ hl (by omega) (by omega)).mono ?_
    rintro _ _ ⟨bb, rfl, rfl⟩
    refine ⟨rfl, hK1 _ ?_⟩; clear hK1 K1
    (repeat (first | refine gO rfl ?_ | (refine gR fun K1 hK1 => ?_; simp only [go_sem, ↓reduceIte, reduceCtorEq, nA, nB, nC, nD, nE, nF, hd0] <;> and_intros <;> first | (apply hK1; clear hK1 K1) | (intros; first | omega | decide | (simp_all <;> omega)) | skip)))
    cases bb with
    | false =>
     refine awp_cond (t := _) rfl (fun h9 => by cases h9) (fun _ => ?_)
     (repeat (first | refine gO rfl ?_ | (refine gR fun K1 hK1 => ?_; simp only [go_sem, ↓reduceIte, reduceCtorEq, nA, nB, nC, nD, nE, nF] <;> and_intros <;> first | (apply hK1; clear hK1 K1) | (intros; first | omega | decide | (simp_all <;> omega)) | skip)))
     exact ⟨ws, a1 + 1, hwl, hwo, by omega, rfl⟩
    | true =>
     refine awp_cond (t := _) rfl (fun _ => ?_) (fun h9 => by cases h9)
     (repeat (first | refine gO rfl ?_ | (refine gR fun K1 hK1 => ?_; simp only [go_sem, ↓reduceIte, reduceCtorEq, nA, nB, nC, nD, nE, nF] <;> and_intros <;> first | (apply hK1; clear hK1 K1) | (intros; first | omega | decide | (simp_all <;> omega)) | skip)))
     refine (g_next i l (a1 + 1) N.length _ hl (by omega) (by omega)).mono ?_; rintro _ _ ⟨x, hx, rfl, rfl⟩; apply hK1; clear hK1 K1
     obtain ⟨q, rfl⟩ : ∃ q : Nat, x = q := ⟨x.toNat, by omega⟩
     have hqn : q < ws.length := by omega
     have hqm : q < (ws.map encW).length := by simpa using hqn
     have gq : (ws.map encW).getD q [] = [.v (.string (ws.getD q default).1), .v (.int .i64 (ws.getD q default).2.1), .v (.int .i64 (ws.getD q default).2.2)] := getD_enc encW ws q default hqn
     have hwq := hwo _ (show ws.getD q default ∈ ws by rw [List.getD_eq_getElem?_getD, List.getElem?_eq_getElem hqn]; exact List.getElem_mem hqn)
     have hgs : ∀ A, ((ws.map encW).set q A).getD q [] = A := fun A => by rw [List.getD_eq_getElem?_getD, List.getElem?_set_self hqm]; rfl
     have hss : ∀ A B, ((ws.map encW).set q A).set q B = (ws.map encW).set q B := fun A B => List.set_set _
     have hsl : ∀ A, ((ws.map encW).set q A).length = N.length := fun A => by rw [List.length_set, List.length_map, hwl]
     have hqq : q < N.length := by omega
     generalize ws.getD q default = z at gq hwq
     have hTs : ∀ A a2, ((Hp.mk h.H (upd h.T k (some (.cont 3 ((ws.map encW).set q A))))).st i l a2).T k = some (TO.cont 3 ((ws.map encW).set q A)) := fun A a2 => upd_same _ _ _
     have htt2 : ∀ A a2 X, (Hp.mk ((Hp.mk h.H (upd h.T k (some (.cont 3 ((ws.map encW).set q A))))).st i l a2).H (upd ((Hp.mk h.H (upd h.T k (some (.cont 3 ((ws.map encW).set q A))))).st i l a2).T k X)) = (Hp.mk h.H (upd h.T k X)).st i l a2 := fun A a2 X => by simp only [Hp.st, upd_upd]
     (repeat (first | refine gO rfl ?_ | (refine gR fun K1 hK1 => ?_; simp only [go_sem, ↓reduceIte, reduceCtorEq, nA, nB, nC, nD, nE, nF, Int.toNat_natCast, hTq, hlw, gq, hqq] <;> and_intros <;> first | (apply hK1; clear hK1 K1) | (intros; first | omega | decide | (simp_all <;> omega)) | skip)))
     refine (g_some i l (a1 + 1 + 1) [z.1, ⟨#[]⟩, ⟨#[105, 97]⟩] none _ hl (by omega) (by simp)).mono ?_; rintro _ _ ⟨y1, hy1, rfl, rfl⟩; apply hK1; clear hK1 K1
     (repeat (first | refine gO rfl ?_ | (refine gR fun K1 hK1 => ?_; simp only [go_sem, ↓reduceIte, reduceCtorEq, nA, nB, nC, nD, nE, nF, Int.toNat_natCast, hTq, hlw, gq, hqq] <;> and_intros <;> first | (apply hK1; clear hK1 K1) | (intros; first | omega | decide | (simp_all <;> omega)) | skip)))
     refine (g_odd i l (a1 + 1 + 1 + 1) 1 12 _ hl (by omega) (by omega) (by omega) (by omega)).mono ?_; rintro _ _ ⟨y2, b1, hy2, hb1, rfl, rfl⟩; apply hK1; clear hK1 K1
     (repeat (first | refine gO rfl ?_ | (refine gR fun K1 hK1 => ?_; simp only [go_sem, ↓reduceIte, reduceCtorEq, nA, nB, nC, nD, nE, nF, Int.toNat_natCast, hTq, hlw, gq, hqq] <;> and_intros <;> first | (apply hK1; clear hK1 K1) | (intros; first | omega | decide | (simp_all <;> omega)) | skip)))
     refine (g_odd i l b1 0 12 _ hl (by omega) (by omega) (by omega) (by omega)).mono ?_; rintro _ _ ⟨y3, b2, hy3, hb2, rfl, rfl⟩; apply hK1; clear hK1 K1
     (repeat (first | refine gO rfl ?_ | (refine gR fun K1 hK1 => ?_; simp only [go_sem, ↓reduceIte, reduceCtorEq, nA, nB, nC, nD, nE, nF, Int.toNat_natCast, hTq, hlw, gq, hqq, hgs, hss, hsl, hTs, htt, htt2] <;> and_intros <;> first | (apply hK1; clear hK1 K1) | (intros; first | omega | decide | (simp_all <;> omega)) | skip)))
     refine ⟨ws.set q (y1, y2, y3), b2, by rw [List.length_set, hwl], fun u hu => ?_, by omega, ?_⟩
     ·rcases List.mem_or_eq_of_mem_set hu with h9 | rfl
      ·exact hwo u h9
      ·refine ⟨?_, hy2, hy3⟩
       simp only [List.mem_cons, List.not_mem_nil, or_false] at hy1
       rcases hy1 with rfl | rfl | rfl
       ·exact hwq.1
       ·show (⟨#[]⟩ : ByteArray).size ≤ 2; decide
       ·show (⟨#[105, 97]⟩ : ByteArray).size ≤ 2; decide
     ·rw [show (ws.set q (y1, y2, y3)).map encW = (ws.map encW).set q (encW (y1, y2, y3)) from List.map_set]; rfl
  ·rintro _ ⟨ws2, a2, hwl2, hwo2, ha2, rfl⟩
   refine awp_frz 3 k 3 (xs := ws2.map encW) (by simp [hwl2]; rfl) (upd_same _ _ _) (encW_z ws2) ?_
   (repeat (first | refine gO rfl ?_ | (refine gR fun K1 hK1 => ?_; simp only [go_sem, ↓reduceIte, reduceCtorEq, nA, nB, nC, nD, nE, nF] <;> and_intros <;> first | (apply hK1; clear hK1 K1) | (intros; first | omega | decide | (simp_all <;> omega)) | skip)))
   simp only [Tryz.results32, go_sem, ↓reduceIte, reduceCtorEq, nA, nB, nC, nD, nE, nF]
   refine ⟨_, h.st i l a2, Weak.refl _, ⟨fun _ => .inr rfl, fun j => ?_⟩, ws2, a2, by omega, hwo2, by omega, rfl, rfl⟩
   by_cases e : j = k
   ·subst e; exact .inl hk
   ·exact .inr (by simp only [Hp.st]; rw [upd_other _ _ e, upd_other _ _ e])
def fsome {β : Type} (f : Nat → Option β) : Nat → Nat → Option β
 | _, 0 => none
 | i, k + 1 => match f i with
  | some x => some x
  | none => fsome f (i + 1) k
theorem fsome_none {β : Type} {f : Nat → Option β} {i k : Nat} (h : f i = none) : fsome f i (k + 1) = fsome f (i + 1) k := by rw [fsome, h]
theorem fsome_some {β : Type} {f : Nat → Option β} {i k : Nat} {x : β} (h : f i = some x) : fsome f i (k + 1) = some x := by rw [fsome, h]
theorem fsome_spec {β : Type} {f : Nat → Option β} {x : β} : ∀ {i k : Nat}, fsome f i k = some x → ∃ j, i ≤ j ∧ j < i + k ∧ f j = some x
 | _, 0, h => by cases h
 | i, k + 1, h => by
  cases e : f i with
  | some y => rw [fsome_some e] at h; exact ⟨i, by omega, by omega, by rw [e, h]⟩
  | none =>
   rw [fsome_none e] at h
   obtain ⟨j, a, b, c⟩ := fsome_spec h
   exact ⟨j, by omega, by omega, c⟩
def anyF (f : Nat → Bool) : Nat → Nat → Bool
 | _, 0 => false
 | i, k + 1 => f i || anyF f (i + 1) k
theorem anyF_true {f : Nat → Bool} : ∀ {i k : Nat}, anyF f i k = true → ∃ j, i ≤ j ∧ j < i + k ∧ f j = true
 | _, 0, h => by cases h
 | i, k + 1, h => by
  simp only [anyF, Bool.or_eq_true] at h
  rcases h with h | h
  ·exact ⟨i, by omega, by omega, h⟩
  ·obtain ⟨j, a, b, c⟩ := anyF_true h
   exact ⟨j, by omega, by omega, c⟩
def stepW (W : List Int) : List Int := W.map fun x => max 0 (x - 1)
def solve (ds : List Int) : Nat → List Int → List Int → Option (List Nat)
 | 0, _, _ => some []
 | m + 1, L, W => fsome (fun i => if L.getD i 0 = 0 ∨ 0 < W.getD i 0 then none else (solve ds m (L.set i (L.getD i 0 - 1)) ((stepW W).set i (ds.getD i 0))).map (i :: ·)) 0 L.length
def tryI (ds : List Int) (m : Nat) (L W : List Int) (i : Nat) : Option (List Nat) := if L.getD i 0 = 0 ∨ 0 < W.getD i 0 then none else (solve ds m (L.set i (L.getD i 0 - 1)) ((stepW W).set i (ds.getD i 0))).map (i :: ·)
theorem solve_succ (ds : List Int) (m : Nat) (L W : List Int) : solve ds (m + 1) L W = fsome (tryI ds m L W) 0 L.length := rfl
structure SpS (ds : List Int) (m : Nat) (L W : List Int) : Prop where
 lw : W.length = L.length
 la : ds.length = L.length
 l0 : ∀ x ∈ L, 0 ≤ x ∧ x ≤ 12
 w0 : ∀ x ∈ W, 0 ≤ x ∧ x ≤ 12
 a0 : ∀ x ∈ ds, 0 ≤ x ∧ x ≤ 12
 sm : L.sum = m
 m12 : m ≤ 12
theorem sum_set (L : List Int) : ∀ {i : Nat} (_ : i < L.length) (x : Int), (L.set i x).sum = L.sum - L.getD i 0 + x := by
 induction L with
 | nil => intro i h; simp at h
 | cons a L ih =>
  intro i h x
  cases i with
  | zero => simp; omega
  | succ i =>
   have := ih (by simpa using h) x
   simp only [List.set_cons_succ, List.sum_cons, List.getD_cons_succ] at this ⊢
   omega
theorem mem_getD (L : List Int) {i : Nat} (h : i < L.length) : L.getD i 0 ∈ L := by
 rw [List.getD_eq_getElem?_getD, List.getElem?_eq_getElem h]; exact List.getElem_mem h
theorem SpS.next {ds : List Int} {m : Nat} {L W : List Int} (h : SpS ds (m + 1) L W) {i : Nat} (hi : i < L.length) (h1 : ¬ (L.getD i 0 = 0 ∨ 0 < W.getD i 0)) : SpS ds m (L.set i (L.getD i 0 - 1)) ((stepW W).set i (ds.getD i 0)) := by
 have hl := h.l0 _ (mem_getD L hi)
 have ha := h.a0 _ (mem_getD ds (by rw [h.la]; exact hi))
 refine ⟨by simp [stepW, h.lw], by simp [h.la], fun x hx => ?_, fun x hx => ?_, h.a0, ?_, by have := h.m12; omega⟩
 ·rcases List.mem_or_eq_of_mem_set hx with h9 | rfl
  ·exact h.l0 x h9
  ·omega
 ·rcases List.mem_or_eq_of_mem_set hx with h9 | rfl
  ·obtain ⟨y, hy, rfl⟩ := List.mem_map.1 h9
   have := h.w0 y hy; omega
  ·exact ha
 ·have := sum_set L hi (L.getD i 0 - 1)
  have := h.sm
  omega
theorem getD_set_ne {L : List Int} {i j : Nat} {x : Int} (h : i ≠ j) : (L.set i x).getD j 0 = L.getD j 0 := by
 simp only [List.getD_eq_getElem?_getD, List.getElem?_set_ne h]
theorem getD_set_eq {L : List Int} {i : Nat} {x : Int} (h : i < L.length) : (L.set i x).getD i 0 = x := by
 simp [List.getD_eq_getElem?_getD, h]
theorem getD_stepW {W : List Int} {j : Nat} (h : j < W.length) : (stepW W).getD j 0 = max 0 (W.getD j 0 - 1) := by
 simp [stepW, List.getD_eq_getElem?_getD, h]
theorem solve_room {ds : List Int} : ∀ {m : Nat} {L W : List Int} {p : List Nat} (_ : SpS ds m L W) (_ : solve ds m L W = some p) {i : Nat} (_ : i < L.length) (_ : 0 < L.getD i 0), W.getD i 0 + (L.getD i 0 - 1) * (ds.getD i 0 + 1) < m
 | 0, L, W, p, hs, _, i, hi, hp => by
  exfalso
  have := hs.sm
  have key : ∀ L : List Int, (∀ x ∈ L, 0 ≤ x) → ∀ x ∈ L, x ≤ L.sum := by
   intro L
   induction L with
   | nil => intro _ x hx; simp at hx
   | cons a L ih =>
    intro h0 x hx
    have hs0 : 0 ≤ L.sum := by
     have : ∀ L : List Int, (∀ x ∈ L, 0 ≤ x) → 0 ≤ L.sum := by
      intro L
      induction L with
      | nil => simp
      | cons b L ih => intro h; have := ih (fun y hy => h y (by simp [hy])); have := h b (by simp); simp; omega
     exact this L fun y hy => h0 y (by simp [hy])
    rcases List.mem_cons.1 hx with rfl | hx
    ·simp; omega
    ·have := ih (fun y hy => h0 y (by simp [hy])) x hx
     have := h0 a (by simp)
     simp; omega
  have := key L (fun x hx => (hs.l0 x hx).1) _ (mem_getD L hi)
  omega
 | m + 1, L, W, p, hs, h, i, hi, hp => by
  rw [solve_succ] at h
  obtain ⟨j, _, hj, h⟩ := fsome_spec h
  unfold tryI at h
  split at h
  ·cases h
  rename_i hn
  obtain ⟨q, hq, rfl⟩ := Option.map_eq_some_iff.1 h
  have hjl : j < L.length := by omega
  have hs2 := hs.next hjl hn
  have hlj := hs.l0 _ (mem_getD L hjl)
  have haj := hs.a0 _ (mem_getD ds (i := i) (by rw [hs.la]; exact hi))
  have hwi := hs.w0 _ (mem_getD W (i := i) (by rw [hs.lw]; exact hi))
  by_cases e : j = i
  ·subst e
   by_cases h1 : L.getD j 0 = 1
   ·rw [h1]
    have := hwi
    simp only [not_or] at hn
    have : W.getD j 0 = 0 := by omega
    rw [this]; omega
   ·have ih := solve_room (i := j) hs2 hq (by simpa using hjl) (by rw [getD_set_eq hjl]; simp only [not_or] at hn; omega)
    rw [getD_set_eq hjl, getD_set_eq (by simp [stepW, hs.lw]; exact hjl)] at ih
    simp only [not_or] at hn
    have : W.getD j 0 = 0 := by omega
    rw [this]
    have e1 : (L.getD j 0 - 1) * (ds.getD j 0 + 1) = (L.getD j 0 - 1 - 1) * (ds.getD j 0 + 1) + (ds.getD j 0 + 1) := by
     rw [show L.getD j 0 - 1 = (L.getD j 0 - 1 - 1) + 1 by omega, Int.add_mul, Int.one_mul]
     rw [show L.getD j 0 - 1 - 1 + 1 - 1 = L.getD j 0 - 1 - 1 by omega]
    rw [e1]; push_cast; omega
  ·have ih := solve_room (i := i) hs2 hq (by simpa using hi) (by rw [getD_set_ne e]; exact hp)
   rw [getD_set_ne e, getD_set_ne e, getD_stepW (by rw [hs.lw]; exact hi)] at ih
   push_cast
   omega
def waits (ds last : List Int) (at_ : Int) : List Int := List.zipWith (fun a l => max 0 (l + a + 1 - at_)) ds last
theorem waits_len {ds last : List Int} (h : last.length = ds.length) (t : Int) : (waits ds last t).length = ds.length := by simp [waits, h]
theorem waits_get {ds last : List Int} (h : last.length = ds.length) (t : Int) {i : Nat} (hi : i < ds.length) : (waits ds last t).getD i 0 = max 0 (last.getD i 0 + ds.getD i 0 + 1 - t) := by
 simp [waits, List.getD_eq_getElem?_getD, hi, h]
theorem waits_step {ds last : List Int} (h : last.length = ds.length) (t : Int) {i : Nat} (hi : i < ds.length) (h0 : 0 ≤ ds.getD i 0) : (stepW (waits ds last t)).set i (ds.getD i 0) = waits ds (last.set i t) (t + 1) := by
 apply List.ext_getElem?
 intro j
 by_cases hj : j < ds.length
 ·have hl1 : j < ((stepW (waits ds last t)).set i (ds.getD i 0)).length := by simp [stepW, waits_len h]; exact hj
  have hl2 : j < (waits ds (last.set i t) (t + 1)).length := by rw [waits_len (by simpa using h)]; exact hj
  rw [List.getElem?_eq_getElem hl1, List.getElem?_eq_getElem hl2]
  congr 1
  have eg : ∀ (l : List Int) (hl : j < l.length), l[j] = l.getD j 0 := fun l hl => by rw [List.getD_eq_getElem?_getD, List.getElem?_eq_getElem hl]; rfl
  have e1 := eg _ hl1
  have e2 := eg _ hl2
  rw [e1, e2, waits_get (by simpa using h) _ hj]
  by_cases e : i = j
  ·subst e
   rw [getD_set_eq (by simp [stepW, waits_len h]; exact hj), getD_set_eq (by rw [h]; exact hj)]
   omega
  ·rw [getD_set_ne e, getD_set_ne e, getD_stepW (by rw [waits_len h]; exact hj), waits_get h _ hj]
   omega
 ·rw [List.getElem?_eq_none (by simp [stepW, waits_len h]; omega), List.getElem?_eq_none (by rw [waits_len (by simpa using h)]; omega)]
def roomB (ds L last : List Int) (at_ all : Int) (i : Nat) : Bool := decide (0 < L.getD i 0) && decide (all ≤ max at_ (last.getD i 0 + ds.getD i 0 + 1) + (L.getD i 0 - 1) * (ds.getD i 0 + 1))
theorem roomB_none {ds L last : List Int} {m : Nat} {at_ all : Int} (hl : last.length = ds.length) (hs : SpS ds m L (waits ds last at_)) (hm : all = at_ + m) {i : Nat} (hi : i < L.length) (h : roomB ds L last at_ all i = true) : solve ds m L (waits ds last at_) = none := by
 cases e : solve ds m L (waits ds last at_) with
 | none => rfl
 | some p =>
  exfalso
  simp only [roomB, Bool.and_eq_true, decide_eq_true_eq] at h
  have h1 := solve_room hs e hi h.1
  rw [waits_get hl _ (by rw [hs.la]; exact hi)] at h1
  have h2 := h.2
  generalize (L.getD i 0 - 1) * (ds.getD i 0 + 1) = z at h1 h2
  omega
def dig (n : Nat) : List UInt8 := if n < 10 then [UInt8.ofNat (48 + n)] else [49, UInt8.ofNat (48 + n % 10)]
theorem dec_dig {n : Nat} (h : n < 20) : Lib.decDigits n = dig n := by
 unfold dig
 by_cases h1 : n < 10
 ·rw [Lib.decDigits, dif_pos h1, if_pos h1]
 ·rw [Lib.decDigits, dif_neg h1, if_neg h1, Lib.decDigits, dif_pos (by omega), show n / 10 = 1 by omega]; rfl
theorem dig_inj : ∀ n m : Fin 13, dig n = dig m → n = m := by decide
theorem dig_no : ∀ n : Fin 13, ∀ x ∈ dig n, x ≠ 58 ∧ x ≠ 32 := by decide
theorem split_at {c : UInt8} : ∀ {A B X Y : List UInt8} (_ : ∀ x ∈ A, x ≠ c) (_ : ∀ x ∈ B, x ≠ c) (_ : A ++ c :: X = B ++ c :: Y), A = B ∧ X = Y
 | [], [], X, Y, _, _, h => by simpa using h
 | [], b :: B, X, Y, _, hb, h => by
  simp only [List.nil_append, List.cons_append, List.cons.injEq] at h
  exact absurd h.1.symm (hb b (by simp))
 | a :: A, [], X, Y, ha, _, h => by
  simp only [List.nil_append, List.cons_append, List.cons.injEq] at h
  exact absurd h.1 (ha a (by simp))
 | a :: A, b :: B, X, Y, ha, hb, h => by
  simp only [List.cons_append, List.cons.injEq] at h
  obtain ⟨e, r⟩ := split_at (fun x hx => ha x (by simp [hx])) (fun x hx => hb x (by simp [hx])) h.2
  exact ⟨by rw [h.1, e], r⟩
def oneK (l w : Int) : List UInt8 := Lib.decDigits l.toNat ++ 58 :: (Lib.decDigits w.toNat ++ [32])
def keyK : List Int → List Int → List UInt8
 | l :: L, w :: W => oneK l w ++ keyK L W
 | _, _ => []
theorem keyK_inj : ∀ {L W L' W' : List Int} (_ : L.length = W.length) (_ : L'.length = W'.length) (_ : L.length = L'.length) (_ : ∀ x ∈ L, 0 ≤ x ∧ x ≤ 12) (_ : ∀ x ∈ W, 0 ≤ x ∧ x ≤ 12) (_ : ∀ x ∈ L', 0 ≤ x ∧ x ≤ 12) (_ : ∀ x ∈ W', 0 ≤ x ∧ x ≤ 12) (_ : keyK L W = keyK L' W'), L = L' ∧ W = W'
 | [], [], [], [], _, _, _, _, _, _, _, _ => ⟨rfl, rfl⟩
 | l :: L, w :: W, l' :: L', w' :: W', h1, h2, h3, b1, b2, b3, b4, h => by
  have c1 := b1 l (by simp); have c2 := b2 w (by simp); have c3 := b3 l' (by simp); have c4 := b4 w' (by simp)
  simp only [keyK, oneK, dec_dig (show l.toNat < 20 by omega), dec_dig (show w.toNat < 20 by omega), dec_dig (show l'.toNat < 20 by omega), dec_dig (show w'.toNat < 20 by omega), List.append_assoc, List.cons_append, List.nil_append] at h
  obtain ⟨e1, h⟩ := split_at (fun x hx => (dig_no ⟨l.toNat, by omega⟩ x hx).1) (fun x hx => (dig_no ⟨l'.toNat, by omega⟩ x hx).1) h
  obtain ⟨e2, h⟩ := split_at (fun x hx => (dig_no ⟨w.toNat, by omega⟩ x hx).2) (fun x hx => (dig_no ⟨w'.toNat, by omega⟩ x hx).2) h
  have i1 := Fin.mk.inj (dig_inj ⟨l.toNat, by omega⟩ ⟨l'.toNat, by omega⟩ e1)
  have i2 := Fin.mk.inj (dig_inj ⟨w.toNat, by omega⟩ ⟨w'.toNat, by omega⟩ e2)
  obtain ⟨r1, r2⟩ := keyK_inj (by simpa using h1) (by simpa using h2) (by simpa using h3) (fun x hx => b1 x (by simp [hx])) (fun x hx => b2 x (by simp [hx])) (fun x hx => b3 x (by simp [hx])) (fun x hx => b4 x (by simp [hx])) h
  exact ⟨by rw [r1, show l = l' by omega], by rw [r2, show w = w' by omega]⟩
def BadOk (ds : List Int) (n : Nat) (ks : List ByteArray) : Prop := ∀ k ∈ ks, ∀ m L W, L.length = n → SpS ds m L W → (⟨(keyK L W).toArray⟩ : ByteArray) = k → solve ds m L W = none
theorem BadOk.more {ds : List Int} {n : Nat} {ks : List ByteArray} (h : BadOk ds n ks) {m : Nat} {L W : List Int} (hn : L.length = n) (hs : SpS ds m L W) (h0 : solve ds m L W = none) : BadOk ds n ((⟨(keyK L W).toArray⟩ : ByteArray) :: ks) := by
 intro k hk m' L' W' hn' hs' e
 rcases List.mem_cons.1 hk with rfl | hk
 ·have e2 : keyK L' W' = keyK L W := by
   have := congrArg (fun b : ByteArray => b.data.toList) e
   simpa using this
  obtain ⟨rfl, rfl⟩ := keyK_inj hs'.lw.symm hs.lw.symm (by omega) hs'.l0 hs'.w0 hs.l0 hs.w0 e2
  have := hs.sm; have := hs'.sm
  obtain rfl : m = m' := by omega
  exact h0
 ·exact h k hk m' L' W' hn' hs' e
abbrev zPTE : List Nat := [0, 1, 2, 3, 4, 5, 6, 7, 8, 9, 10, 11, 12, 13, 14, 15, 16, 17, 18, 19, 20, 21, 22, 23, 24, 25, 26, 27, 28]
abbrev zPTP : List (Nat × List Nat × List Nat) := []
abbrev zPUE : List Nat := [0, 1, 2, 3, 4, 5, 6, 7, 8, 9, 10, 11, 12, 13, 14, 15, 16, 17]
abbrev zPUP : List (Nat × List Nat × List Nat) := []
attribute [go_sem] zPTE zPTP zPUE zPUP
def apt (ws : List Wn) : List Int := ws.map (·.2.2)
def itm (ws : List Wn) (i : Nat) : ByteArray := (ws.getD i default).1
theorem getD_encI {L : List Int} {j : Nat} (h : j < L.length) : (L.map encI).getD j [] = [.v (.int .i64 (L.getD j 0))] := getD_enc encI L j 0 h
theorem set_encI (L : List Int) (j : Nat) (x : Int) : (L.map encI).set j [.v (.int .i64 x)] = (L.set j x).map encI := by rw [List.map_set]; rfl
theorem g_roomy (ws : List Wn) (L la : List Int) (kl kc : Nat) (t all : Int) (h : Hp) (h1 : h.T kl = some (.cont 1 (L.map encI))) (h2 : h.T kc = some (.cont 1 (la.map encI))) (l1 : L.length = ws.length) (l2 : la.length = ws.length) (hn : ws.length ≤ 12)
  (b1 : ∀ x ∈ L, 0 ≤ x ∧ x ≤ 12) (b2 : ∀ x ∈ la, -100 ≤ x ∧ x ≤ 100) (b3 : ∀ x ∈ apt ws, 0 ≤ x ∧ x ≤ 12) (b4 : 0 ≤ t ∧ t ≤ 100) :
  ACalls Tryz.prog 94 [.row 3 (ws.map encW) none, .arr 1 kl ws.length, .arr 1 kc ws.length, .v (.int .i64 t), .v (.int .i64 all)] h (fun r h' => r = .v (.bool (!(anyF (roomB (apt ws) L la t all) 0 ws.length))) ∧ h' = h) := by
 refine gE Tryz.func94 rfl (by kernel_rfl) 45 rfl fun c => ?_
 (repeat (first | refine gO rfl ?_ | ((first | refine gM zM33 ?_ | (with_reducible refine wM ?_ ?_) | ((with_reducible refine xS ?_); refine uD 4 zM33 zPTE zPTP 50 rfl (by kernel_rfl) ?_)) <;> ((try with_reducible intro K1 hK1); simp only [go_sem, ↓reduceIte, reduceCtorEq, nA, nB, nC, nD, nE, nF] <;> and_intros <;> first | (apply hK1; clear hK1 K1) | (intros; first | omega | decide | (simp_all <;> omega)) | skip))))
 refine awp_loopC (rl false [0, 5, 8, 3, 34]) 0 (fun g s => ∃ j : Nat, g + j = ws.length ∧ Go.RowKit.Hid (anyF (roomB (apt ws) L la t all) 0 ws.length = anyF (roomB (apt ws) L la t all) j (ws.length - j)) ∧
  s = ⟨((.row 3 (ws.map encW) none) :: (.arr 1 kl ws.length) :: (.arr 1 kc ws.length) :: (.v (.int .i64 t)) :: (.v (.int .i64 all)) :: (jnk 8 ((.row 3 (ws.map encW) none) :: (.v (.int .i64 ws.length)) :: (.v (.int .i64 j)) :: (jnk 34 [])))), [], h⟩) ws.length ⟨0, by omega, Lib.hid rfl, rfl⟩ ?_
 rintro g _ ⟨j, hj, HW, rfl⟩
 (repeat (first | refine gO rfl ?_ | ((first | refine gM zM33 ?_ | (with_reducible refine wM ?_ ?_) | ((with_reducible refine xS ?_); refine uD 4 zM33 zPTE zPTP 50 rfl (by kernel_rfl) ?_)) <;> ((try with_reducible intro K1 hK1); simp only [go_sem, ↓reduceIte, reduceCtorEq, nA, nB, nC, nD, nE, nF] <;> and_intros <;> first | (apply hK1; clear hK1 K1) | (intros; first | omega | decide | (simp_all <;> omega)) | skip))))
 refine awp_cond (t := _) rfl (fun h5 => ?_) (fun h5 => ?_)
 ·simp only [decide_eq_true_eq] at h5
  have hjl : j < ws.length := by omega
  have gx : (ws.map encW).getD j [] = [.v (.string (ws.getD j default).1), .v (.int .i64 (ws.getD j default).2.1), .v (.int .i64 (ws.getD j default).2.2)] := getD_enc encW ws j default hjl
  have gl := getD_encI (L := L) (j := j) (by omega)
  have gc := getD_encI (L := la) (j := j) (by omega)
  have ga : (apt ws).getD j 0 = (ws.getD j default).2.2 := by simp [apt, List.getD_eq_getElem?_getD, hjl]
  have c1 := b1 _ (mem_getD L (i := j) (by omega))
  have c2 := b2 _ (mem_getD la (i := j) (by omega))
  have c3 := b3 _ (mem_getD (apt ws) (i := j) (by simpa [apt] using hjl))
  rw [show ws.length - j = (ws.length - (j + 1)) + 1 by omega, anyF] at HW
  have hB : roomB (apt ws) L la t all j = (decide (0 < L.getD j 0) && decide (all ≤ max t (la.getD j 0 + (ws.getD j default).2.2 + 1) + (L.getD j 0 - 1) * ((ws.getD j default).2.2 + 1))) := by rw [roomB, ga]
  rw [hB] at HW
  rw [ga] at c3
  have hl1 : (L.map encI).length = ws.length := by simpa using l1
  have hl2 : (la.map encI).length = ws.length := by simpa using l2
  generalize L.getD j 0 = l at *
  generalize la.getD j 0 = c at *
  generalize ws.getD j default = x at *
  have hz : 0 < l → 0 ≤ (l - 1) * (x.2.2 + 1) ∧ (l - 1) * (x.2.2 + 1) ≤ 11 * 13 := fun hp => ⟨Int.mul_nonneg (by omega) (by omega), Int.mul_le_mul (by omega) (by omega) (by omega) (by omega)⟩
  by_cases hp : 0 < l
  ·have hd : decide (0 < l) = true := by simpa using hp
   have hz2 := hz hp
   clear hz
   rw [hd, Bool.true_and] at HW
   (repeat (first | refine gO rfl ?_ | ((first | refine gM zM33 ?_ | (with_reducible refine wM ?_ ?_) | ((with_reducible refine xS ?_); refine uD 4 zM33 zPTE zPTP 50 rfl (by kernel_rfl) ?_)) <;> ((try with_reducible intro K1 hK1); simp only [go_sem, ↓reduceIte, reduceCtorEq, nA, nB, nC, nD, nE, nF, Int.toNat_natCast, gx, h1, h2, gl, gc, hd, hl1, hl2, hjl] <;> and_intros <;> first | (apply hK1; clear hK1 K1) | (intros; first | omega | decide | (simp_all <;> omega)) | skip))))
   refine awp_cond (t := _) rfl (fun h6 => ?_) (fun h6 => ?_)
   ·(repeat (first | refine gO rfl ?_ | ((first | refine gM zM33 ?_ | (with_reducible refine wM ?_ ?_) | ((with_reducible refine xS ?_); refine uD 4 zM33 zPTE zPTP 50 rfl (by kernel_rfl) ?_)) <;> ((try with_reducible intro K1 hK1); simp only [go_sem, ↓reduceIte, reduceCtorEq, nA, nB, nC, nD, nE, nF] <;> and_intros <;> first | (apply hK1; clear hK1 K1) | (intros; first | omega | decide | (simp_all <;> omega)) | skip))))
    simp only [Tryz.results94, go_sem, ↓reduceIte, reduceCtorEq, nA, nB, nC, nD, nE, nF]
    exact ⟨_, _, Weak.refl _, Hp.le.refl _, by rw [HW.out, h6]; rfl, rfl⟩
   ·rw [h6, Bool.false_or] at HW
    (repeat (first | refine gO rfl ?_ | ((first | refine gM zM33 ?_ | (with_reducible refine wM ?_ ?_) | ((with_reducible refine xS ?_); refine uD 4 zM33 zPTE zPTP 50 rfl (by kernel_rfl) ?_)) <;> ((try with_reducible intro K1 hK1); simp only [go_sem, ↓reduceIte, reduceCtorEq, nA, nB, nC, nD, nE, nF] <;> and_intros <;> first | (apply hK1; clear hK1 K1) | (intros; first | omega | decide | (simp_all <;> omega)) | skip))))
    exact ⟨g - 1, by omega, j + 1, by omega, HW, rfl⟩
  ·have hd : decide (0 < l) = false := by simpa using hp
   rw [hd, Bool.false_and, Bool.false_or] at HW
   (repeat (first | refine gO rfl ?_ | ((first | refine gM zM33 ?_ | (with_reducible refine wM ?_ ?_) | ((with_reducible refine xS ?_); refine uD 4 zM33 zPTE zPTP 50 rfl (by kernel_rfl) ?_)) <;> ((try with_reducible intro K1 hK1); simp only [go_sem, ↓reduceIte, reduceCtorEq, nA, nB, nC, nD, nE, nF, Int.toNat_natCast, gx, h1, h2, gl, gc, hd, hl1, hl2, hjl] <;> and_intros <;> first | (apply hK1; clear hK1 K1) | (intros; first | omega | decide | (simp_all <;> omega)) | skip))))
   refine awp_cond (t := _) rfl (fun h6 => by cases h6) (fun h6 => ?_)
   (repeat (first | refine gO rfl ?_ | ((first | refine gM zM33 ?_ | (with_reducible refine wM ?_ ?_) | ((with_reducible refine xS ?_); refine uD 4 zM33 zPTE zPTP 50 rfl (by kernel_rfl) ?_)) <;> ((try with_reducible intro K1 hK1); simp only [go_sem, ↓reduceIte, reduceCtorEq, nA, nB, nC, nD, nE, nF] <;> and_intros <;> first | (apply hK1; clear hK1 K1) | (intros; first | omega | decide | (simp_all <;> omega)) | skip))))
   exact ⟨g - 1, by omega, j + 1, by omega, HW, rfl⟩
 ·simp only [decide_eq_false_iff_not] at h5
  have hjl : j = ws.length := by omega
  subst hjl
  rw [Nat.sub_self, anyF] at HW
  (repeat (first | refine gO rfl ?_ | ((first | refine gM zM33 ?_ | (with_reducible refine wM ?_ ?_) | ((with_reducible refine xS ?_); refine uD 4 zM33 zPTE zPTP 50 rfl (by kernel_rfl) ?_)) <;> ((try with_reducible intro K1 hK1); simp only [go_sem, ↓reduceIte, reduceCtorEq, nA, nB, nC, nD, nE, nF] <;> and_intros <;> first | (apply hK1; clear hK1 K1) | (intros; first | omega | decide | (simp_all <;> omega)) | skip))))
  simp only [Tryz.results94, go_sem, ↓reduceIte, reduceCtorEq, nA, nB, nC, nD, nE, nF]
  exact ⟨_, _, Weak.refl _, Hp.le.refl _, by rw [HW.out]; rfl, rfl⟩
structure TrS (h : Hp) (ir ia il i3 i4 it kl kc ko : Nat) (ws : List Wn) (L la : List Int) (out : List ByteArray) (all : Nat) : Prop where
 hr : h.H ir = some (.cells [.arr 1 ko out.length])
 ha : h.H ia = some (.cells [.v (.int .i64 all)])
 hl : h.H il = some (.cells [.row 3 (ws.map encW) none])
 h3 : h.H i3 = some (.cells [.arr 1 kl ws.length])
 h4 : h.H i4 = some (.cells [.arr 1 kc ws.length])
 ht : h.H it = some (.cells [.fn 93 [.ptr ir 0, .ptr ia 0, .ptr il 0, .ptr i3 0, .ptr i4 0, .ptr it 0]])
 tl : h.T kl = some (.cont 1 (L.map encI))
 tc : h.T kc = some (.cont 1 (la.map encI))
 tq : h.T ko = some (.cont 1 (out.map encS))
 n1 : kl ≠ kc ∧ kl ≠ ko ∧ kc ≠ ko
 n2 : ia ≠ ir ∧ il ≠ ir ∧ i3 ≠ ir ∧ i4 ≠ ir ∧ it ≠ ir
structure TrB (ws : List Wn) (m : Nat) (L la : List Int) (out : List ByteArray) (all : Nat) : Prop where
 ll : la.length = ws.length
 sp : SpS (apt ws) m L (waits (apt ws) la out.length)
 lb : ∀ x ∈ la, -100 ≤ x ∧ x ≤ out.length
 al : all = out.length + m
 a12 : all ≤ 12
theorem TrB.l1 {ws : List Wn} {m : Nat} {L la : List Int} {out : List ByteArray} {all : Nat} (h : TrB ws m L la out all) : L.length = ws.length := by have := h.sp.la; simp [apt] at this; omega
theorem TrB.next {ws : List Wn} {m : Nat} {L la : List Int} {out : List ByteArray} {all : Nat} (h : TrB ws (m + 1) L la out all) {i : Nat} (hi : i < ws.length) (h1 : ¬ (L.getD i 0 = 0 ∨ 0 < (waits (apt ws) la out.length).getD i 0)) (x : ByteArray) :
  TrB ws m (L.set i (L.getD i 0 - 1)) (la.set i out.length) (out ++ [x]) all ∧ (stepW (waits (apt ws) la out.length)).set i ((apt ws).getD i 0) = waits (apt ws) (la.set i out.length) (out ++ [x]).length := by
 have hal : la.length = (apt ws).length := by rw [h.ll]; simp [apt]
 have hia : i < (apt ws).length := by simpa [apt] using hi
 have hst := waits_step hal (t := (out.length : Int)) hia (h.sp.a0 _ (mem_getD _ hia)).1
 have hl : ((out ++ [x]).length : Int) = (out.length : Int) + 1 := by simp
 have hn := h.sp.next (i := i) (by rw [h.l1]; exact hi) h1
 rw [hst, ← hl] at hn
 refine ⟨⟨by simpa using h.ll, hn, fun y hy => ?_, by have := h.al; simp; omega, h.a12⟩, by rw [hst, hl]⟩
 rcases List.mem_or_eq_of_mem_set hy with h9 | rfl
 ·have := h.lb y h9; simp; omega
 ·simp; omega
theorem g_try (ws : List Wn) (hn : ws.length ≤ 12) (ir ia il i3 i4 it kl kc : Nat) (all : Nat) : ∀ (m : Nat) (ko : Nat) (L la : List Int) (out : List ByteArray) (h : Hp), TrS h ir ia il i3 i4 it kl kc ko ws L la out all → TrB ws m L la out all →
  ACalls Tryz.prog 93 [.ptr ir 0, .ptr ia 0, .ptr il 0, .ptr i3 0, .ptr i4 0, .ptr it 0] h (fun r h' => ∃ (ko' : Nat) (L' la' : List Int),
   match solve (apt ws) m L (waits (apt ws) la out.length) with
   | some p => r = .v (.bool true) ∧ TrS h' ir ia il i3 i4 it kl kc ko' ws L' la' (out ++ p.map (itm ws)) all
   | none => r = .v (.bool false) ∧ TrS h' ir ia il i3 i4 it kl kc ko' ws L la out all) := by
 intro m
 induction m with
 | zero =>
  intro ko L la out h hS hB
  have hal := hB.al
  have e1 := hS.hr
  have e2 := hS.ha
  have e3 : ((out.length : Int) == (all : Int)) = true := by simp; omega
  refine gE Tryz.func93 rfl (by kernel_rfl) 80 rfl fun c => ?_
  (repeat (first | refine gO rfl ?_ | ((first | refine gM zM34 ?_ | (with_reducible refine wM ?_ ?_) | ((with_reducible refine xS ?_); refine uD 6 zM34 zPUE zPUP 86 rfl (by kernel_rfl) ?_)) <;> ((try with_reducible intro K1 hK1); simp only [go_sem, ↓reduceIte, reduceCtorEq, nA, nB, nC, nD, nE, nF, e1, e2, e3] <;> and_intros <;> first | (apply hK1; clear hK1 K1) | (intros; first | omega | decide | (simp_all <;> omega)) | skip))))
  refine awp_cond (t := _) rfl (fun _ => ?_) (fun h9 => by cases h9)
  (repeat (first | refine gO rfl ?_ | ((first | refine gM zM34 ?_ | (with_reducible refine wM ?_ ?_) | ((with_reducible refine xS ?_); refine uD 6 zM34 zPUE zPUP 86 rfl (by kernel_rfl) ?_)) <;> ((try with_reducible intro K1 hK1); simp only [go_sem, ↓reduceIte, reduceCtorEq, nA, nB, nC, nD, nE, nF] <;> and_intros <;> first | (apply hK1; clear hK1 K1) | (intros; first | omega | decide | (simp_all <;> omega)) | skip))))
  simp only [Tryz.results93, go_sem, ↓reduceIte, reduceCtorEq, nA, nB, nC, nD, nE, nF]
  exact ⟨_, _, Weak.refl _, Hp.le.refl _, ko, L, la, rfl, by simpa using hS⟩
 | succ m ih =>
  intro ko L la out h hS hB
  have hal := hB.al
  have e1 := hS.hr
  have e2 := hS.ha
  have e4 := hS.hl
  have e3 : ((out.length : Int) == (all : Int)) = false := by simp; omega
  have hl1 := hB.l1
  refine gE Tryz.func93 rfl (by kernel_rfl) 80 rfl fun c => ?_
  (repeat (first | refine gO rfl ?_ | ((first | refine gM zM34 ?_ | (with_reducible refine wM ?_ ?_) | ((with_reducible refine xS ?_); refine uD 6 zM34 zPUE zPUP 86 rfl (by kernel_rfl) ?_)) <;> ((try with_reducible intro K1 hK1); simp only [go_sem, ↓reduceIte, reduceCtorEq, nA, nB, nC, nD, nE, nF, e1, e2, e3, e4] <;> and_intros <;> first | (apply hK1; clear hK1 K1) | (intros; first | omega | decide | (simp_all <;> omega)) | skip))))
  refine awp_cond (t := _) rfl (fun h9 => by cases h9) (fun _ => ?_)
  (repeat (first | refine gO rfl ?_ | ((first | refine gM zM34 ?_ | (with_reducible refine wM ?_ ?_) | ((with_reducible refine xS ?_); refine uD 6 zM34 zPUE zPUP 86 rfl (by kernel_rfl) ?_)) <;> ((try with_reducible intro K1 hK1); simp only [go_sem, ↓reduceIte, reduceCtorEq, nA, nB, nC, nD, nE, nF, e4] <;> and_intros <;> first | (apply hK1; clear hK1 K1) | (intros; first | omega | decide | (simp_all <;> omega)) | skip))))
  have hHW : solve (apt ws) (m + 1) L (waits (apt ws) la out.length) = fsome (tryI (apt ws) m L (waits (apt ws) la out.length)) 0 ws.length := by rw [solve_succ, hl1]
  have HB := Lib.hid hB
  rw [hHW]
  clear hB e1 e2 e4 hHW
  refine awp_loopC (rl false [0, 6, 8, 3, 69]) 0 (fun g s => ∃ (j ko2 : Nat) (h2 : Hp), g + j = ws.length ∧ Go.RowKit.Hid (fsome (tryI (apt ws) m L (waits (apt ws) la out.length)) 0 ws.length = fsome (tryI (apt ws) m L (waits (apt ws) la out.length)) j (ws.length - j)) ∧ TrS h2 ir ia il i3 i4 it kl kc ko2 ws L la out all ∧
   s = ⟨((.ptr ir 0) :: (.ptr ia 0) :: (.ptr il 0) :: (.ptr i3 0) :: (.ptr i4 0) :: (.ptr it 0) :: (jnk 8 ((.row 3 (ws.map encW) none) :: (.v (.int .i64 ws.length)) :: (.v (.int .i64 j)) :: (jnk 69 [])))), [], h2⟩) ws.length ⟨0, ko, h, by omega, Lib.hid rfl, hS, rfl⟩ ?_
  rintro g _ ⟨j, ko2, h2, hj, HW, hS2, rfl⟩
  clear hS
  (repeat (first | refine gO rfl ?_ | ((first | refine gM zM34 ?_ | (with_reducible refine wM ?_ ?_) | ((with_reducible refine xS ?_); refine uD 6 zM34 zPUE zPUP 86 rfl (by kernel_rfl) ?_)) <;> ((try with_reducible intro K1 hK1); simp only [go_sem, ↓reduceIte, reduceCtorEq, nA, nB, nC, nD, nE, nF] <;> and_intros <;> first | (apply hK1; clear hK1 K1) | (intros; first | omega | decide | (simp_all <;> omega)) | skip))))
  refine awp_cond (t := _) rfl (fun h5 => ?_) (fun h5 => ?_)
  ·simp only [decide_eq_true_eq] at h5
   have hjl : j < ws.length := by omega
   have gx : (ws.map encW).getD j [] = [.v (.string (ws.getD j default).1), .v (.int .i64 (ws.getD j default).2.1), .v (.int .i64 (ws.getD j default).2.2)] := getD_enc encW ws j default hjl
   have hll := HB.out.ll
   have gl := getD_encI (L := L) (j := j) (by omega)
   have gc := getD_encI (L := la) (j := j) (by omega)
   have ga : (apt ws).getD j 0 = (ws.getD j default).2.2 := by simp [apt, List.getD_eq_getElem?_getD, hjl]
   have gi : itm ws j = (ws.getD j default).1 := rfl
   have c1 := HB.out.sp.l0 _ (mem_getD L (i := j) (by omega))
   have c2 := HB.out.lb _ (mem_getD la (i := j) (by omega))
   have c3 := HB.out.sp.a0 _ (mem_getD (apt ws) (i := j) (by simpa [apt] using hjl))
   have a12 := HB.out.a12
   rw [show ws.length - j = (ws.length - (j + 1)) + 1 by omega] at HW
   have hwj := waits_get (ds := apt ws) (last := la) (by rw [hll]; simp [apt]) (out.length : Int) (i := j) (by simpa [apt] using hjl)
   rw [ga] at c3 hwj
   have htI : tryI (apt ws) m L (waits (apt ws) la out.length) j = if L.getD j 0 = 0 ∨ 0 < (waits (apt ws) la out.length).getD j 0 then none else (solve (apt ws) m (L.set j (L.getD j 0 - 1)) ((stepW (waits (apt ws) la out.length)).set j ((apt ws).getD j 0))).map (j :: ·) := rfl
   have hNx := fun a => HB.out.next (i := j) hjl a (ws.getD j default).1
   have hml : (L.map encI).length = ws.length := by simpa using hl1
   have hmc : (la.map encI).length = ws.length := by simpa using hll
   have sl := fun x => set_encI L j x
   have sc := fun x => set_encI la j x
   have r1 := hS2.hr
   have r2 := hS2.ha
   have r3 := hS2.h3
   have r4 := hS2.h4
   have r5 := hS2.tl
   have r6 := hS2.tc
   by_cases hz : L.getD j 0 = 0
   ·have hd : (L.getD j 0 == 0) = true := by rw [hz]; rfl
    rw [if_pos (.inl hz)] at htI
    have HW2 := Lib.hid (HW.out.trans (fsome_none htI))
    clear HW htI hNx
    generalize L.getD j 0 = l at *
    generalize la.getD j 0 = c at *
    generalize ws.getD j default = x at *
    (repeat (first | refine gO rfl ?_ | ((first | refine gM zM34 ?_ | (with_reducible refine wM ?_ ?_) | ((with_reducible refine xS ?_); refine uD 6 zM34 zPUE zPUP 86 rfl (by kernel_rfl) ?_)) <;> ((try with_reducible intro K1 hK1); simp only [go_sem, ↓reduceIte, reduceCtorEq, nA, nB, nC, nD, nE, nF, Int.toNat_natCast, gx, r1, r3, r4, r5, r6, gl, gc, hd, hml, hmc, hjl] <;> and_intros <;> first | (apply hK1; clear hK1 K1) | (intros; first | omega | decide | (simp_all <;> omega)) | skip))))
    refine awp_cond (t := _) rfl (fun _ => ?_) (fun h9 => by cases h9)
    (repeat (first | refine gO rfl ?_ | ((first | refine gM zM34 ?_ | (with_reducible refine wM ?_ ?_) | ((with_reducible refine xS ?_); refine uD 6 zM34 zPUE zPUP 86 rfl (by kernel_rfl) ?_)) <;> ((try with_reducible intro K1 hK1); simp only [go_sem, ↓reduceIte, reduceCtorEq, nA, nB, nC, nD, nE, nF] <;> and_intros <;> first | (apply hK1; clear hK1 K1) | (intros; first | omega | decide | (simp_all <;> omega)) | skip))))
    exact ⟨g - 1, by omega, j + 1, ko2, h2, by omega, HW2, hS2, rfl⟩
   ·have hd : (L.getD j 0 == 0) = false := beq_eq_false_iff_ne.2 hz
    by_cases hw : 0 < (waits (apt ws) la out.length).getD j 0
    ·rw [if_pos (.inr hw)] at htI
     have HW2 := Lib.hid (HW.out.trans (fsome_none htI))
     rw [hwj] at hw
     clear HW htI hNx hwj
     generalize L.getD j 0 = l at *
     generalize la.getD j 0 = c at *
     generalize ws.getD j default = x at *
     have hd2 : decide ((out.length : Int) - c - 1 < x.2.2) = true := by simp only [decide_eq_true_eq]; omega
     (repeat (first | refine gO rfl ?_ | ((first | refine gM zM34 ?_ | (with_reducible refine wM ?_ ?_) | ((with_reducible refine xS ?_); refine uD 6 zM34 zPUE zPUP 86 rfl (by kernel_rfl) ?_)) <;> ((try with_reducible intro K1 hK1); simp only [go_sem, ↓reduceIte, reduceCtorEq, nA, nB, nC, nD, nE, nF, Int.toNat_natCast, gx, r1, r3, r4, r5, r6, gl, gc, hd, hd2, hml, hmc, hjl] <;> and_intros <;> first | (apply hK1; clear hK1 K1) | (intros; first | omega | decide | (simp_all <;> omega)) | skip))))
     refine awp_cond (t := _) rfl (fun _ => ?_) (fun h9 => by cases h9)
     (repeat (first | refine gO rfl ?_ | ((first | refine gM zM34 ?_ | (with_reducible refine wM ?_ ?_) | ((with_reducible refine xS ?_); refine uD 6 zM34 zPUE zPUP 86 rfl (by kernel_rfl) ?_)) <;> ((try with_reducible intro K1 hK1); simp only [go_sem, ↓reduceIte, reduceCtorEq, nA, nB, nC, nD, nE, nF] <;> and_intros <;> first | (apply hK1; clear hK1 K1) | (intros; first | omega | decide | (simp_all <;> omega)) | skip))))
     exact ⟨g - 1, by omega, j + 1, ko2, h2, by omega, HW2, hS2, rfl⟩
    ·have hno : ¬ (L.getD j 0 = 0 ∨ 0 < (waits (apt ws) la out.length).getD j 0) := not_or.2 ⟨hz, hw⟩
     obtain ⟨hB2, hst⟩ := hNx hno
     rw [if_neg hno, hst] at htI
     rw [hwj] at hw
     clear hNx hst hwj hno
     have n1 := hS2.n1
     have n2 := hS2.n2
     have r7 : ∀ A, upd h2.T kl A kc = some (.cont 1 (la.map encI)) := fun A => by rw [upd_other _ _ (Ne.symm n1.1)]; exact r6
     have r8 : ∀ A B, upd (upd h2.T kl A) kc B ko2 = some (.cont 1 (out.map encS)) := fun A B => by rw [upd_other _ _ (Ne.symm n1.2.2), upd_other _ _ (Ne.symm n1.2.1)]; exact hS2.tq
     have q2 : ∀ A, upd h2.H ir A ia = some (.cells [.v (.int .i64 all)]) := fun A => by rw [upd_other _ _ n2.1]; exact hS2.ha
     have q3 : ∀ A, upd h2.H ir A il = some (.cells [.row 3 (ws.map encW) none]) := fun A => by rw [upd_other _ _ n2.2.1]; exact hS2.hl
     have q4 : ∀ A, upd h2.H ir A i3 = some (.cells [.arr 1 kl ws.length]) := fun A => by rw [upd_other _ _ n2.2.2.1]; exact hS2.h3
     have q5 : ∀ A, upd h2.H ir A i4 = some (.cells [.arr 1 kc ws.length]) := fun A => by rw [upd_other _ _ n2.2.2.2.1]; exact hS2.h4
     have q6 : ∀ A, upd h2.H ir A it = some (.cells [.fn 93 [.ptr ir 0, .ptr ia 0, .ptr il 0, .ptr i3 0, .ptr i4 0, .ptr it 0]]) := fun A => by rw [upd_other _ _ n2.2.2.2.2]; exact hS2.ht
     have hS3 : TrS ⟨upd h2.H ir (some (.cells [.arr 1 ko2 (out.length + 1)])), upd (upd (upd h2.T kl (some (.cont 1 ((L.set j (L.getD j 0 - 1)).map encI)))) kc (some (.cont 1 ((la.set j out.length).map encI)))) ko2 (some (.cont 1 ((out ++ [(ws.getD j default).1]).map encS)))⟩ ir ia il i3 i4 it kl kc ko2 ws (L.set j (L.getD j 0 - 1)) (la.set j out.length) (out ++ [(ws.getD j default).1]) all := by
      refine ⟨?_, q2 _, q3 _, q4 _, q5 _, q6 _, ?_, ?_, upd_same _ _ _, n1, n2⟩
      ·show upd _ _ _ _ = _; rw [upd_same]; simp
      ·show upd _ _ _ _ = _; rw [upd_other _ _ n1.2.1, upd_other _ _ n1.1, upd_same]
      ·show upd _ _ _ _ = _; rw [upd_other _ _ n1.2.2, upd_same]
     have hd2 : decide ((out.length : Int) - la.getD j 0 - 1 < (ws.getD j default).2.2) = false := by simp only [decide_eq_false_iff_not]; omega
     have hgr := g_roomy ws (L.set j (L.getD j 0 - 1)) (la.set j out.length) kl kc ((out.length : Int) + 1) all _ hS3.tl hS3.tc (by simpa using hl1) (by simpa using hll) hn hB2.sp.l0 (fun y hy => by have := hB2.lb y hy; simp at this; omega) hB2.sp.a0 (by omega)
     have hrm := fun i a b => roomB_none (ds := apt ws) (L := L.set j (L.getD j 0 - 1)) (last := la.set j out.length) (m := m) (at_ := ((out ++ [(ws.getD j default).1]).length : Int)) (all := (all : Int)) (by simp [apt, hll]) hB2.sp (by have := hB2.al; omega) (i := i) a b
     have hrm2 : ((out ++ [(ws.getD j default).1]).length : Int) = (out.length : Int) + 1 := by simp
     rw [hrm2] at hrm
     have hrestL : (L.set j (L.getD j 0 - 1)).set j (L.getD j 0) = L := by
      rw [List.set_set]
      apply List.ext_getElem?
      intro q
      by_cases e : j = q
      ·subst e; rw [List.getElem?_set_self (by omega), List.getD_eq_getElem?_getD, List.getElem?_eq_getElem (by omega)]; rfl
      ·rw [List.getElem?_set_ne e]
     have hrestC : (la.set j (out.length : Int)).set j (la.getD j 0) = la := by
      rw [List.set_set]
      apply List.ext_getElem?
      intro q
      by_cases e : j = q
      ·subst e; rw [List.getElem?_set_self (by omega), List.getD_eq_getElem?_getD, List.getElem?_eq_getElem (by omega)]; rfl
      ·rw [List.getElem?_set_ne e]
     have gl2 : ((L.set j (L.getD j 0 - 1)).map encI).getD j [] = [.v (.int .i64 (L.getD j 0 - 1))] := by rw [getD_encI (by simp; omega), getD_set_eq (by omega)]
     have gc2 : ((la.set j (out.length : Int)).map encI).getD j [] = [.v (.int .i64 out.length)] := by rw [getD_encI (by simp; omega), getD_set_eq (by omega)]
     have sl2 : ∀ x, ((L.set j (L.getD j 0 - 1)).map encI).set j [.v (.int .i64 x)] = ((L.set j (L.getD j 0 - 1)).set j x).map encI := fun x => set_encI _ j x
     have sc2 : ∀ x, ((la.set j (out.length : Int)).map encI).set j [.v (.int .i64 x)] = ((la.set j (out.length : Int)).set j x).map encI := fun x => set_encI _ j x
     have hml2 : ((L.set j (L.getD j 0 - 1)).map encI).length = ws.length := by simpa using hl1
     have hmc2 : ((la.set j (out.length : Int)).map encI).length = ws.length := by simpa using hll
     have hih := ih ko2 _ _ _ _ hS3 hB2
     have HW2 := Lib.hid HW.out
     generalize L.getD j 0 = l at *
     generalize la.getD j 0 = c at *
     generalize eL2 : L.set j (l - 1) = L2 at *
     generalize ela2 : la.set j (out.length : Int) = la2 at *
     generalize hab : anyF (roomB (apt ws) L2 la2 ((out.length : Int) + 1) all) 0 ws.length = ab at hgr
     generalize ws.getD j default = x at *
     have hlo : (out.map encS).length = out.length := by simp
     have hao : out.map encS ++ [[.v (.string x.1)]] = (out ++ [x.1]).map encS := by simp [encS]
     (repeat (first | refine gO rfl ?_ | ((first | refine gM zM34 ?_ | (with_reducible refine wM ?_ ?_) | ((with_reducible refine xS ?_); refine uD 6 zM34 zPUE zPUP 86 rfl (by kernel_rfl) ?_)) <;> ((try with_reducible intro K1 hK1); simp only [go_sem, ↓reduceIte, reduceCtorEq, nA, nB, nC, nD, nE, nF, Int.toNat_natCast, gx, r1, r3, r4, r5, r6, r7, r8, gl, gc, hd, hd2, hml, hmc, hjl, sl, sc, eL2, ela2, q2, q3, q4, q5, hlo, hao] <;> and_intros <;> first | (apply hK1; clear hK1 K1) | (intros; first | omega | decide | (simp_all <;> omega)) | skip))))
     refine awp_cond (t := _) rfl (fun h9 => by cases h9) (fun _ => ?_)
     (repeat (first | refine gQ rfl ?_ | ((first | refine gM zM34 ?_ | (with_reducible refine wM ?_ ?_) | ((with_reducible refine xS ?_); refine uD 6 zM34 zPUE zPUP 86 rfl (by kernel_rfl) ?_)) <;> ((try with_reducible intro K1 hK1); simp only [go_sem, ↓reduceIte, reduceCtorEq, nA, nB, nC, nD, nE, nF, Int.toNat_natCast, gx, r1, r3, r4, r5, r6, r7, r8, gl, gc, hml, hmc, hjl, sl, sc, eL2, ela2, q2, q3, q4, q5, hlo, hao] <;> and_intros <;> first | (apply hK1; clear hK1 K1) | (intros; first | omega | decide | (simp_all <;> omega)) | skip))))
     refine awp_seq ?_
     refine awp_join (rl false [0, 6, 1, 1, 1, 1, 4, 3, 69]) 0 (fun s => ∃ (ko3 : Nat) (h6 : Hp), tryI (apt ws) m L (waits (apt ws) la out.length) j = none ∧ TrS h6 ir ia il i3 i4 it kl kc ko3 ws L2 la2 (out ++ [x.1]) all ∧
      s = ⟨((.ptr ir 0) :: (.ptr ia 0) :: (.ptr il 0) :: (.ptr i3 0) :: (.ptr i4 0) :: (.ptr it 0) :: AV.junk :: ((.v (.int .i64 j)) :: AV.junk :: ((.v (.int .i64 c)) :: (jnk 4 ((.row 3 (ws.map encW) none) :: (.v (.int .i64 ws.length)) :: (.v (.int .i64 j)) :: (jnk 69 [])))))), [], h6⟩) ?_ ?_
     ·(repeat (first | refine gO rfl ?_ | ((first | refine gM zM34 ?_ | (with_reducible refine wM ?_ ?_) | ((with_reducible refine xS ?_); refine uD 6 zM34 zPUE zPUP 86 rfl (by kernel_rfl) ?_)) <;> ((try with_reducible intro K1 hK1); simp only [go_sem, ↓reduceIte, reduceCtorEq, nA, nB, nC, nD, nE, nF, q2, q3, q4, q5, upd_same] <;> and_intros <;> first | (apply hK1; clear hK1 K1) | (intros; first | omega | decide | (simp_all <;> omega)) | skip))))
      have hlc : ((out.length + 1 : Nat) : Int) = (out.length : Int) + 1 := by simp
      rw [hlc]
      refine hgr.mono ?_; rintro _ hz ⟨rfl, hh⟩; apply hK1; clear hK1 K1; rw [hh]; clear hh hz
      cases ab with
      | true =>
       obtain ⟨i, _, hi2, hi3⟩ := anyF_true hab
       have hnone := hrm i (by rw [hB2.l1]; omega) hi3
       (repeat (first | refine gO rfl ?_ | ((first | refine gM zM34 ?_ | (with_reducible refine wM ?_ ?_) | ((with_reducible refine xS ?_); refine uD 6 zM34 zPUE zPUP 86 rfl (by kernel_rfl) ?_)) <;> ((try with_reducible intro K1 hK1); simp only [go_sem, ↓reduceIte, reduceCtorEq, nA, nB, nC, nD, nE, nF, q6] <;> and_intros <;> first | (apply hK1; clear hK1 K1) | (intros; first | omega | decide | (simp_all <;> omega)) | skip))))
       refine awp_cond (t := _) rfl (fun h9 => by cases h9) (fun _ => ?_)
       (repeat (first | refine gO rfl ?_ | ((first | refine gM zM34 ?_ | (with_reducible refine wM ?_ ?_) | ((with_reducible refine xS ?_); refine uD 6 zM34 zPUE zPUP 86 rfl (by kernel_rfl) ?_)) <;> ((try with_reducible intro K1 hK1); simp only [go_sem, ↓reduceIte, reduceCtorEq, nA, nB, nC, nD, nE, nF] <;> and_intros <;> first | (apply hK1; clear hK1 K1) | (intros; first | omega | decide | (simp_all <;> omega)) | skip))))
       exact ⟨ko2, _, by rw [htI, hrm2, hnone]; rfl, hS3, rfl⟩
      | false =>
       (repeat (first | refine gO rfl ?_ | ((first | refine gM zM34 ?_ | (with_reducible refine wM ?_ ?_) | ((with_reducible refine xS ?_); refine uD 6 zM34 zPUE zPUP 86 rfl (by kernel_rfl) ?_)) <;> ((try with_reducible intro K1 hK1); simp only [go_sem, ↓reduceIte, reduceCtorEq, nA, nB, nC, nD, nE, nF, q6] <;> and_intros <;> first | (apply hK1; clear hK1 K1) | (intros; first | omega | decide | (simp_all <;> omega)) | skip))))
       refine hih.mono ?_
       rintro r6 h6 ⟨ko3, L3, la3, hm⟩
       cases e : solve (apt ws) m L2 (waits (apt ws) la2 (out ++ [x.1]).length) with
       | some p =>
        rw [e] at hm
        obtain ⟨rfl, hS4⟩ := hm
        refine ⟨rfl, hK1 _ ?_⟩; clear hK1 K1
        (repeat (first | refine gO rfl ?_ | ((first | refine gM zM34 ?_ | (with_reducible refine wM ?_ ?_) | ((with_reducible refine xS ?_); refine uD 6 zM34 zPUE zPUP 86 rfl (by kernel_rfl) ?_)) <;> ((try with_reducible intro K1 hK1); simp only [go_sem, ↓reduceIte, reduceCtorEq, nA, nB, nC, nD, nE, nF] <;> and_intros <;> first | (apply hK1; clear hK1 K1) | (intros; first | omega | decide | (simp_all <;> omega)) | skip))))
        refine awp_cond (t := _) rfl (fun _ => ?_) (fun h9 => by cases h9)
        (repeat (first | refine gO rfl ?_ | ((first | refine gM zM34 ?_ | (with_reducible refine wM ?_ ?_) | ((with_reducible refine xS ?_); refine uD 6 zM34 zPUE zPUP 86 rfl (by kernel_rfl) ?_)) <;> ((try with_reducible intro K1 hK1); simp only [go_sem, ↓reduceIte, reduceCtorEq, nA, nB, nC, nD, nE, nF] <;> and_intros <;> first | (apply hK1; clear hK1 K1) | (intros; first | omega | decide | (simp_all <;> omega)) | skip))))
        simp only [Tryz.results93, go_sem, ↓reduceIte, reduceCtorEq, nA, nB, nC, nD, nE, nF]
        refine ⟨_, _, Weak.refl _, Hp.le.refl _, ko3, L3, la3, ?_⟩
        rw [e] at htI
        rw [HW2.out, fsome_some (x := j :: p) (by rw [htI]; rfl)]
        refine ⟨rfl, ?_⟩
        rw [List.map_cons, gi, List.append_cons]
        exact hS4
       | none =>
        rw [e] at hm
        obtain ⟨rfl, hS4⟩ := hm
        refine ⟨rfl, hK1 _ ?_⟩; clear hK1 K1
        (repeat (first | refine gO rfl ?_ | ((first | refine gM zM34 ?_ | (with_reducible refine wM ?_ ?_) | ((with_reducible refine xS ?_); refine uD 6 zM34 zPUE zPUP 86 rfl (by kernel_rfl) ?_)) <;> ((try with_reducible intro K1 hK1); simp only [go_sem, ↓reduceIte, reduceCtorEq, nA, nB, nC, nD, nE, nF] <;> and_intros <;> first | (apply hK1; clear hK1 K1) | (intros; first | omega | decide | (simp_all <;> omega)) | skip))))
        refine awp_cond (t := _) rfl (fun h9 => by cases h9) (fun _ => ?_)
        (repeat (first | refine gO rfl ?_ | ((first | refine gM zM34 ?_ | (with_reducible refine wM ?_ ?_) | ((with_reducible refine xS ?_); refine uD 6 zM34 zPUE zPUP 86 rfl (by kernel_rfl) ?_)) <;> ((try with_reducible intro K1 hK1); simp only [go_sem, ↓reduceIte, reduceCtorEq, nA, nB, nC, nD, nE, nF] <;> and_intros <;> first | (apply hK1; clear hK1 K1) | (intros; first | omega | decide | (simp_all <;> omega)) | skip))))
        exact ⟨ko3, h6, by rw [htI, e]; rfl, hS4, rfl⟩
     ·rintro _ ⟨ko3, h6, hno, hS4, rfl⟩
      have HW3 := Lib.hid (HW2.out.trans (fsome_none hno))
      clear hno hih hgr hrm htI HW HW2 hS3 hab
      have z1 := hS4.hr
      have z3 := hS4.h3
      have z4 := hS4.h4
      have z8 := hS4.tq
      have n1' := hS4.n1
      have n2' := hS4.n2
      have hlq : (((out ++ [x.1]).length : Int) - 1).toNat = out.length := by simp
      have htq : ((out ++ [x.1]).map encS).take out.length = out.map encS := by rw [List.map_append, List.take_left' (by simp)]
      have hlm : ((out ++ [x.1]).map encS).length = (out ++ [x.1]).length := by simp
      (repeat (first | refine gO rfl ?_ | ((first | refine gM zM34 ?_ | (with_reducible refine wM ?_ ?_) | ((with_reducible refine xS ?_); refine uD 6 zM34 zPUE zPUP 86 rfl (by kernel_rfl) ?_)) <;> ((try with_reducible intro K1 hK1); simp only [go_sem, ↓reduceIte, reduceCtorEq, nA, nB, nC, nD, nE, nF, z1, z8, hlm, hlq, htq, Option.toList_none, Option.toList_some, List.append_eq, List.nil_append, List.cons_append, uside] <;> and_intros <;> first | (apply hK1; clear hK1 K1) | (intros; first | omega | decide | (simp_all <;> omega)) | skip))))
      intro q hq
      have hTq : ∀ k, upd h6.T ko3 none k ≠ none → k ≠ q := fun k hk e => by
       rw [e] at hk
       by_cases e2 : q = ko3
       ·rw [e2, upd_same] at hk; exact hk rfl
       ·rw [upd_other _ _ e2] at hk; exact hk hq
      have hql : kl ≠ q := fun e => by rw [← e, hS4.tl] at hq; cases hq
      have hqc : kc ≠ q := fun e => by rw [← e, hS4.tc] at hq; cases hq
      have y3 : ∀ A, upd h6.H ir A i3 = some (.cells [.arr 1 kl ws.length]) := fun A => by rw [upd_other _ _ n2'.2.2.1]; exact z3
      have y4 : ∀ A, upd h6.H ir A i4 = some (.cells [.arr 1 kc ws.length]) := fun A => by rw [upd_other _ _ n2'.2.2.2.1]; exact z4
      have y5 : ∀ A, upd (upd h6.T ko3 none) q A kl = some (.cont 1 (L2.map encI)) := fun A => by rw [upd_other _ _ hql, upd_other _ _ n1'.2.1]; exact hS4.tl
      have y6 : ∀ A B, upd (upd (upd h6.T ko3 none) q A) kl B kc = some (.cont 1 (la2.map encI)) := fun A B => by rw [upd_other _ _ (Ne.symm n1'.1), upd_other _ _ hqc, upd_other _ _ n1'.2.2]; exact hS4.tc
      refine hK1 _ ?_; clear hK1 K1
      have hel : l - 1 + 1 = l := by omega
      (repeat (first | refine gO rfl ?_ | ((first | refine gM zM34 ?_ | (with_reducible refine wM ?_ ?_) | ((with_reducible refine xS ?_); refine uD 6 zM34 zPUE zPUP 86 rfl (by kernel_rfl) ?_)) <;> ((try with_reducible intro K1 hK1); simp only [go_sem, ↓reduceIte, reduceCtorEq, nA, nB, nC, nD, nE, nF, Int.toNat_natCast, y3, y4, y5, y6, gl2, gc2, sl2, sc2, hml2, hmc2, hjl, hel, hrestL, hrestC] <;> and_intros <;> first | (apply hK1; clear hK1 K1) | (intros; first | omega | decide | (simp_all <;> omega)) | skip))))
      refine ⟨g - 1, by omega, j + 1, q, _, by omega, HW3, ⟨?_, ?_, ?_, ?_, ?_, ?_, ?_, ?_, ?_, ⟨n1'.1, hql, hqc⟩, n2'⟩, rfl⟩
      ·exact upd_same _ _ _
      ·show upd _ _ _ _ = _; rw [upd_other _ _ n2'.1]; exact hS4.ha
      ·show upd _ _ _ _ = _; rw [upd_other _ _ n2'.2.1]; exact hS4.hl
      ·exact y3 _
      ·exact y4 _
      ·show upd _ _ _ _ = _; rw [upd_other _ _ n2'.2.2.2.2]; exact hS4.ht
      ·show upd _ _ _ _ = _; rw [upd_other _ _ n1'.1, upd_same]
      ·exact upd_same _ _ _
      ·show upd _ _ _ _ = _; rw [upd_other _ _ (Ne.symm hqc), upd_other _ _ (Ne.symm hql), upd_same]
  ·simp only [decide_eq_false_iff_not] at h5
   have hjl : j = ws.length := by omega
   subst hjl
   rw [Nat.sub_self, fsome] at HW
   (repeat (first | refine gO rfl ?_ | ((first | refine gM zM34 ?_ | (with_reducible refine wM ?_ ?_) | ((with_reducible refine xS ?_); refine uD 6 zM34 zPUE zPUP 86 rfl (by kernel_rfl) ?_)) <;> ((try with_reducible intro K1 hK1); simp only [go_sem, ↓reduceIte, reduceCtorEq, nA, nB, nC, nD, nE, nF] <;> and_intros <;> first | (apply hK1; clear hK1 K1) | (intros; first | omega | decide | (simp_all <;> omega)) | skip))))
   simp only [Tryz.results93, go_sem, ↓reduceIte, reduceCtorEq, nA, nB, nC, nD, nE, nF]
   exact ⟨_, _, Weak.refl _, Hp.le.refl _, ko2, L, la, by rw [HW.out]; exact ⟨rfl, hS2⟩⟩
open Go.RowKit
theorem sizeBuilder : (Tryz.prog.info? 177).map (·.size) = some 2 := by kernel_rfl
set_option maxHeartbeats 1000000 in
set_option maxRecDepth 100000 in
theorem copyCheck_used (b : Nat) (w : World) (h0 : w.cell? ⟨b, 0, none⟩ = some (.pointer (some ⟨b, 0, none⟩))) :
    Calls Tryz.prog 206 #[.pointer (some ⟨b, 0, none⟩)] w fun e w' => e = .returned (.tuple #[]) ∧ w' = w := by
  obtain ⟨j, hj, _⟩ := Option.map_eq_some_iff.1 sizeBuilder
  go_enter Tryz.func206, Tryz.ntmps206
  go_wp2
  rw [Lib.run_neq_ptr_same w _ Tryz.underlying174 hj]
  go_wp2
  go_end0
  exact ⟨rfl, rfl⟩
set_option maxHeartbeats 1000000 in
set_option maxRecDepth 100000 in
theorem copyCheck_fresh (b : Nat) (w : World) (h0 : w.cell? ⟨b, 0, none⟩ = some (.pointer none)) (hsh : w.shape? b = some (177, 2)) (hfz : w.frozen? ⟨b, 0, none⟩ = false) :
    Calls Tryz.prog 206 #[.pointer (some ⟨b, 0, none⟩)] w fun e w' => e = .returned (.tuple #[]) ∧ w' = w.setCell ⟨b, 0, none⟩ (.pointer (some ⟨b, 0, none⟩)) := by
  obtain ⟨j, hj, hjs⟩ := Option.map_eq_some_iff.1 sizeBuilder
  go_enter Tryz.func206, Tryz.ntmps206
  go_wp2
  rw [Lib.run_to_unsafe w ⟨b, 0, none⟩ Tryz.underlying174 Tryz.underlying310 hj (by rw [hjs]; decide) hsh (Nat.zero_lt_succ 1)]
  simp only [Result.andThen]
  rw [Oper.upon_value]
  go_wp2
  rw [run_callFunc_extern Tryz.func244 (by kernel_rfl) (by kernel_rfl) (by kernel_rfl) (e := Extern.AbiNoEscape.same) (by kernel_rfl)]
  rw [Lib.run_noEscape]
  simp only [Result.andThen]
  rw [Oper.upon_value]
  go_wp2
  rw [Lib.run_from_unsafe w ⟨b, 0, none⟩ Tryz.underlying310 Tryz.underlying174 hj hsh (by kernel_rfl)]
  simp only [Result.andThen]
  rw [Oper.upon_value]
  go_wp2
  go_end0
  exact ⟨rfl, rfl⟩
section
variable {P : Program} {c : Cx} {Q : Exit → St → Prop} {s : St} {ty : Nat → Option TyD} {o : Oper}
theorem a_allocObj (hty : TyOk P ty) {t : Nat} (ho : o.op = .alloc t) {d : TyD} (hd : ty t = some d) {K : St → Prop}
  (hK : ∀ i, s.h.H i = none → K ({ s with h := { s.h with H := upd s.h.H i (some (.obj t d.zero)) } }.put o.dst (.ptr i 0))) : Aop P c o s K := by
 rintro a w ⟨G, L, sm, hg, hf, hL⟩ Kc Qc hk
 obtain ⟨z, hz, hzz, h1⟩ := zero_run (hty _ _ hd) w
 have hr : RepL G d.zero z.cells.toList := by rw [hzz]; exact RepL.map_v G h1
 obtain ⟨hn, s1, g1, f1, e1⟩ := sm.newObj (y := .obj t d.zero) (o := .cells z.cells.toList.toArray t) ⟨_, rfl, by simpa using hr⟩
 unfold Oper.wp
 have hrun : (execOp a.eval o).run P w = .ok (.value (.pointer (some ⟨w.heap.size, 0, none⟩))) (w.alloc (.cells z.cells.toList.toArray t)) := by
  simp [execOp, ho, Instr.alloc, hz, newVar, newRow]
 rw [hrun]
 exact hk _ _ _ (hK _ hn) (In.put s1 (hg.trans g1) (hf.trans f1) hL o.dst (RepT.of (.ptr _ 0 _ e1)))
theorem awp_allocT (hty : TyOk P ty) {id t : Nat} (ho : o.op = .alloc t) (hg : o.guard = none) {d : TyD} (hd : ty t = some d)
  (h : ∀ i, s.h.H i = none → Q .normal ({ s with h := { s.h with H := upd s.h.H i (some (.obj t d.zero)) } }.put o.dst (.ptr i 0))) : Awp P c (.region id #[o] false) Q s := by
 intro a w hi
 refine wp_region_list ?_
 have h2 := a_allocObj (c := c) hty ho hd (K := Q .normal) h a w hi
 have hw : Region.wanted o (yielded #[o] a.tmps) = true := by simp [Region.wanted, hg]
 unfold wpList
 rw [if_pos hw]
 refine .inl (h2 _ _ fun s' a' w' hs hi' => ?_)
 exact ⟨s', hs, hi'⟩
end
theorem one_ptr {G : Gh} {h : Hp} {w : World} {b : Nat} {vs : Array Value} (hv : vs.size = 1) (ha : ∀ j (hj : j < [AV.ptr b 0].length), Rep G [AV.ptr b 0][j] (vs.getD j undef)) : ∃ p, vs = #[.pointer (some ⟨p, 0, none⟩)] ∧ G.at_ b = some p := by
 have hr := ha 0 (by simp)
 have hvs : vs = #[vs.getD 0 undef] := by
  apply Array.ext (by simpa using hv)
  intro j hj hj'
  simp only [List.size_toArray, List.length_cons, List.length_nil] at hj'
  obtain rfl : j = 0 := by omega
  simp [Array.getD, hv]
 rw [hvs]
 generalize vs.getD 0 undef = v at hr
 simp only [List.getElem_cons_zero] at hr
 cases hr with
 | ptr _ _ p hat => exact ⟨p, rfl, hat⟩
theorem two_cells {G : Gh} {X Y : AV} {vs : Array Value} (h : RepL G [X, Y] vs.toList) : ∃ x y, vs = #[x, y] ∧ Rep G X x ∧ Rep G Y y := by
 obtain ⟨h1, h2⟩ := h
 have hs : vs.size = 2 := by simpa using h1
 refine ⟨vs[0], vs[1], ?_, ?_, ?_⟩
 ·apply Array.ext (by simpa using hs)
  intro j a b
  have : j = 0 ∨ j = 1 := by simp at b; omega
  rcases this with rfl | rfl <;> rfl
 ·have := (h2 0 (by simp) (by simp; omega)).1; simpa using this
 ·have := (h2 1 (by simp) (by simp; omega)).1; simpa using this
theorem g_copyCheck (b : Nat) (X Y : AV) (h : Hp) (hb : h.H b = some (.obj 177 [X, Y])) (hX : X = .v (.pointer none) ∨ X = .ptr b 0) :
  ACalls Tryz.prog 206 [.ptr b 0] h (fun r h' => r = .tup [] ∧ h' = { h with H := upd h.H b (some (.obj 177 [.ptr b 0, Y])) }) := by
 refine acalls_mk (by kernel_rfl) fun G w vs hs hv ha => ?_
 obtain ⟨p, rfl, hat⟩ := one_ptr (h := h) (w := w) hv ha
 obtain ⟨p', ob, e', hh, ⟨us, rfl, hrr⟩, hval⟩ := hs.obj b _ hb
 rw [hat] at e'; cases e'
 obtain ⟨x, y, rfl, hx, hy⟩ := two_cells hrr
 have hO : Own G h p := .inl ⟨b, by rw [hb]; simp, hat⟩
 have hre : RepL G [.ptr b 0, Y] [.pointer (some ⟨p, 0, none⟩), y] := by
  refine RepL.cons (.ptr b 0 p hat) rfl (RepL.cons hy ?_ (RepL.nil G))
  have := (hrr.2 1 (by simp) (by simp)).2
  simpa using this
 rcases hX with rfl | rfl
 ·obtain rfl : x = .pointer none := (RepT.of (L := []) hx).v_inv
  have hc0 : w.cell? ⟨p, 0, none⟩ = some (.pointer none) := by simp [World.cell?, hh]
  refine (copyCheck_fresh p w hc0 (by simp [World.shape?, hh]) (by simp [World.frozen?, hh])).mono ?_
  rintro e w' ⟨rfl, rfl⟩
  have hh' : (w.setCell ⟨p, 0, none⟩ (.pointer (some ⟨p, 0, none⟩))).heap[p]? = some (.cells #[.pointer (some ⟨p, 0, none⟩), y] 177 (0, 0)) := by
   exact heap_setCell_same w p 0 _ _ _ hh
  have hoth : ∀ q, q ≠ p → (w.setCell ⟨p, 0, none⟩ (.pointer (some ⟨p, 0, none⟩))).heap[q]? = w.heap[q]? := fun q hq => heap_setCell_other w _ q _ hq
  refine ⟨_, rfl, .tup [], _, G, ⟨rfl, rfl⟩, GLe.refl _, ?_, hs.setObj hb hat hoth hh' ⟨_, rfl, hre⟩, .tup [] #[] (fun _ => undef) rfl (fun j hj => by simp at hj) (fun j hj => by simp at hj)⟩
  exact ⟨rfl, rfl, rfl, by simp [World.setCell], fun q hlt hn => ⟨hoth q (fun e => hn (e ▸ hO)), fun o' => hn ((own_updH hb).1 o'), fun _ => rfl⟩⟩
 ·have hxe : x = .pointer (some ⟨p, 0, none⟩) := by
   cases hx with
   | ptr _ _ p2 hat2 => rw [hat] at hat2; cases hat2; rfl
  subst hxe
  have hc0 : w.cell? ⟨p, 0, none⟩ = some (.pointer (some ⟨p, 0, none⟩)) := by simp [World.cell?, hh]
  refine (copyCheck_used p w hc0).mono ?_
  rintro e w' ⟨rfl, rfl⟩
  refine ⟨_, rfl, .tup [], _, G, ⟨rfl, rfl⟩, GLe.refl _, ?_, hs.setObj hb hat (fun _ _ => rfl) hh ⟨_, rfl, hre⟩, .tup [] #[] (fun _ => undef) rfl (fun j hj => by simp at hj) (fun j hj => by simp at hj)⟩
  exact ⟨rfl, rfl, rfl, Nat.le_refl _, fun q hlt hn => ⟨rfl, fun o' => hn ((own_updH hb).1 o'), fun _ => rfl⟩⟩
def rowB (l : List UInt8) : List (List AV) := l.map fun x => [.v (.int .u8 (x.toNat : Int))]
theorem rowB_app (l : List UInt8) (s : ByteArray) : rowB l ++ strRow s = rowB (l ++ s.data.toList) := by simp [rowB, strRow]
theorem g_writeString (b k n : Nat) (X : AV) (s : ByteArray) (l : List UInt8) (h : Hp) (hb : h.H b = some (.obj 177 [X, .arr 1 k n])) (hX : X = .v (.pointer none) ∨ X = .ptr b 0) (hT : h.T k = some (.buf 5 (rowB l))) (hn : l.length = n) (hbig : l.length + s.size ≤ 1000000000) :
  ACalls Tryz.prog 157 [.ptr b 0, .v (.string s)] h (fun r h' => r = .tup [.v (.int .i64 s.size), .v .nilIface] ∧ h' = ⟨upd h.H b (some (.obj 177 [.ptr b 0, .arr 1 k (n + s.size)])), upd h.T k (some (.buf 5 (rowB (l ++ s.data.toList))))⟩) := by
 have hl : (rowB l).length = l.length := by simp [rowB]
 rw [← rowB_app]
 generalize rowB l = bs at *
 refine gE Tryz.func157 rfl (by kernel_rfl) 17 rfl fun c => ?_
 (repeat (first | refine gO rfl ?_ | (refine gR fun K1 hK1 => ?_; simp only [go_sem, ↓reduceIte, reduceCtorEq, nA, nB, nC, nD, nE, nF] <;> and_intros <;> first | (apply hK1; clear hK1 K1) | (intros; first | omega | decide | (simp_all <;> omega)) | skip)))
 refine (g_copyCheck b X _ h hb hX).mono ?_; rintro _ hz ⟨rfl, hh⟩; apply hK1; clear hK1 K1; rw [hh]; clear hh hz
 (repeat (first | refine gO rfl ?_ | (refine gR fun K1 hK1 => ?_; simp only [go_sem, ↓reduceIte, reduceCtorEq, nA, nB, nC, nD, nE, nF, upd_same, hT] <;> and_intros <;> first | (apply hK1; clear hK1 K1) | (intros; first | omega | decide | (simp_all <;> omega)) | skip)))
 simp only [Tryz.results157, go_sem, ↓reduceIte, reduceCtorEq, nA, nB, nC, nD, nE, nF]
 exact ⟨_, _, Weak.refl _, Hp.le.refl _, rfl, rfl⟩
open Go.RowKit in
theorem bString_row (b g cap : Nat) (cur : Array Value) (p : Value) (l : List UInt8) (w : World) (h0 : l ≠ []) (hbk : w.heap[b]? = some (.cells #[p, .slice (some ⟨g, 0, none⟩) l.length cap] 177 (0, 0))) (hg : w.heap[g]? = some (.cells cur 5 (0, 0)))
  (hnc : l.length ≤ cap) (hcm : cap ≤ maxLen) (hcs : cur.size = cap) (htake : cur.toList.take l.length = Lib.byteCells l) :
  Calls Tryz.prog 107 #[.pointer (some ⟨b, 0, none⟩)] w fun e w' => e = .returned (.string ⟨l.toArray⟩) ∧ w' = w.drew.freeze ⟨g, 0, none⟩ l.length := by
 have hl0 : l.length ≠ 0 := by simpa using h0
 have c1 : w.drew.cell? ⟨b, 1, none⟩ = some (.slice (some ⟨g, 0, none⟩) l.length cap) := by
  have : w.drew.heap[b]? = some (.cells #[p, .slice (some ⟨g, 0, none⟩) l.length cap] 177 (0, 0)) := hbk
  rw [Lib.cell_of_heap this]; rfl
 have hSD : (Builtin.unsafeSliceData_ #[175] 236 #[.slice (some ⟨g, 0, none⟩) l.length cap]).run Tryz.prog w.drew = .ok (.pointer (some ⟨g, 0, none⟩)) w.drew :=
  Lib.run_unsafeSliceData_row _ _ _ _ _ _ (by omega)
 have hUS : (Builtin.unsafeString_ #[236, 3] 9 #[.pointer (some ⟨g, 0, none⟩), .int .i64 l.length]).run Tryz.prog w.drew = .ok (.string ⟨l.toArray⟩) (w.drew.freeze ⟨g, 0, none⟩ l.length) := by
  refine Lib.run_unsafeString_row w.drew 236 3 9 5 Tryz.underlying236 (by kernel_rfl) g cur.size (by have hg' : w.drew.heap[g]? = some (.cells cur 5 (0, 0)) := hg; simp [World.shape?, hg']) l h0 (by omega) (by unfold maxLen at hcm; omega) ?_
  intro j x hx
  have hg' : w.drew.heap[g]? = some (.cells cur 5 (0, 0)) := hg
  have h1 : (cur.toList.take l.length)[j]? = some (.int .u8 x.toNat) := by rw [htake]; simp [Lib.byteCells, hx]
  rw [Addr.add_lit, Nat.zero_add, Lib.cell_of_heap hg']
  rw [List.getElem?_take] at h1
  split at h1
  ·simpa using h1
  ·cases h1
 have mixed : Tryz.prog.follows .mixedOrders = true := by kernel_rfl
 go_enter Tryz.func107, Tryz.ntmps107
 go_wp2
 go_region_o
 all_goals (go_wp2; go_ret; exact ⟨rfl, rfl⟩)
theorem HSim.other {G : Gh} {h : Hp} {w w' : World} (hs : HSim G h w) {B : Nat} (hb : ∀ b, b ≠ B → w'.heap[b]? = w.heap[b]?) (hv : ∀ o, G.val B o = none) (hn : ¬ Own G h B) : HSim G h w' where
 val b o x e := by
  have hne : b ≠ B := fun e' => by subst e'; rw [hv] at e; cases e
  rw [cellT_at (hb b hne)]; exact hs.val b o x e
 obj j ob e := by
  obtain ⟨b, o', x, y, z⟩ := hs.obj j ob e
  have hne : b ≠ B := fun e' => hn (.inl ⟨j, by rw [e]; simp, by rw [← e']; exact x⟩)
  exact ⟨b, o', x, by rw [hb b hne]; exact y, z⟩
 inj := hs.inj
 tok k m e := by
  refine (hs.tok k m e).move (GLe.refl G) rfl fun t a => ⟨?_, fun _ => rfl⟩
  have hne : t.g ≠ B := fun e' => hn (.inr ⟨k, t, by rw [e]; simp, a, e'⟩)
  rw [hb _ hne]
 tinj := hs.tinj
 tobj := hs.tobj
 fat := hs.fat
 ftl := hs.ftl
theorem repB {G : Gh} {l : List UInt8} {vs : List Value} (h : RepL G (rowB l).flatten vs) : vs = Lib.byteCells l := by
 have hf : (rowB l).flatten = (Lib.byteCells l).map AV.v := by
  unfold rowB Lib.byteCells
  clear h
  induction l with
  | nil => rfl
  | cons x l ih => simp [ih]
 rw [hf] at h
 obtain ⟨h1, h2⟩ := h
 apply List.ext_getElem (by simpa using h1)
 intro j a b
 have h3 := (h2 j (by simpa using b) a).1
 simp only [List.getElem_map] at h3
 generalize vs[j] = y at h3
 cases h3; rfl
theorem g_bString (b k : Nat) (X : AV) (l : List UInt8) (h : Hp) (hb : h.H b = some (.obj 177 [X, .arr 1 k l.length])) (hT : h.T k = some (.buf 5 (rowB l))) (h0 : l ≠ []) :
  ACalls Tryz.prog 107 [.ptr b 0] h (fun r h' => r = .v (.string ⟨l.toArray⟩) ∧ h' = ⟨upd h.H b none, upd h.T k none⟩) := by
 refine acalls_mk (by kernel_rfl) fun G w vs hs hv ha => ?_
 obtain ⟨p, rfl, hat⟩ := one_ptr (h := h) (w := w) hv ha
 obtain ⟨p', ob, e', hh, ⟨us, rfl, hrr⟩, hval⟩ := hs.obj b _ hb
 rw [hat] at e'; cases e'
 obtain ⟨x, y, rfl, hx, hy⟩ := two_cells hrr
 have hrl : (rowB l).length = l.length := by simp [rowB]
 have hne : rowB l ≠ [] := fun e => h0 (by rw [e] at hrl; exact List.eq_nil_of_length_eq_zero hrl.symm)
 rcases hs.tok k _ hT with ⟨_, e1⟩ | ⟨tt, cur, htl, htm, htp, hth, hts, htc, htcm, htf, htz, hzx, htr⟩
 ·exact absurd e1 hne
 cases hy with
 | arr _ _ _ q m c ho =>
 obtain ⟨_, ⟨q', c', e2, _, _⟩, hm⟩ := ho
 rw [htl] at hm
 obtain ⟨hxe, _⟩ := hm.2 (by rw [htm, hrl])
 simp only [Value.slice.injEq] at hxe e2
 obtain ⟨rfl, rfl, rfl⟩ := hxe
 have hfl : (rowB l).flatten.length = l.length := by rw [flatten_len hzx, hrl, Nat.mul_one]
 rw [hfl] at htr
 refine (bString_row p tt.g tt.c cur x l w h0 hh hth (by omega) htcm (by rw [hts, htz, Nat.mul_one]) (repB htr)).mono ?_
 rintro e w' ⟨rfl, rfl⟩
 have hbel : RowKit.Below tt.g w (w.drew.freeze ⟨tt.g, 0, none⟩ l.length) := Lib.below_freeze (RowKit.Below.drew (RowKit.Below.refl tt.g w)) (p := ⟨tt.g, 0, none⟩) (Nat.le_refl _) _
 have hoth : ∀ q, q ≠ tt.g → (w.drew.freeze ⟨tt.g, 0, none⟩ l.length).heap[q]? = w.heap[q]? := fun q hq => by
  unfold World.freeze
  split
  ·rfl
  ·show (w.drew.heap.modify tt.g _)[q]? = _
   rw [Array.getElem?_modify, if_neg (fun e => hq e.symm)]; rfl
 have hle : Hp.le ⟨upd h.H b none, upd h.T k none⟩ h := ⟨fun i => by
  by_cases e : i = b
  ·left; rw [e]; exact upd_same _ _ _
  ·right; exact upd_other _ _ e, fun i => by
  by_cases e : i = k
  ·left; rw [e]; exact upd_same _ _ _
  ·right; exact upd_other _ _ e⟩
 have hnO : ¬ Own G ⟨upd h.H b none, upd h.T k none⟩ tt.g := by
  rintro (⟨i, a, e⟩ | ⟨k2, t2, a, e, eg⟩)
  ·exact hs.tobj k i tt (by rw [hT]; simp) (hle.Hne a) htl e
  ·have := hs.tinj k2 k t2 tt (hle.Tne a) (by rw [hT]; simp) e htl eg
   subst this
   exact a (upd_same _ _ _)
 have hO : Own G h tt.g := .inr ⟨k, tt, by rw [hT]; simp, htl, rfl⟩
 refine ⟨_, rfl, .v (.string ⟨l.toArray⟩), _, G, ⟨rfl, rfl⟩, GLe.refl _, ?_, (hs.less hle).other hoth htf hnO, .v _ rfl⟩
 exact ⟨hbel.os, hbel.tape, hbel.output, hbel.size, fun q hlt hn => ⟨hoth q (fun e => hn (e ▸ hO)), fun o' => hn (hle.own o'), fun _ => rfl⟩⟩
open Go
set_option linter.unusedVariables false
set_option linter.unusedSimpArgs false
theorem g_itoa (n : Nat) (hn : n < 100) (h : Hp) : ACalls Tryz.prog 159 [.v (.int .i64 n)] h (fun r h' => r = .v (.string ⟨(Lib.decDigits n).toArray⟩) ∧ h' = h) := by
 refine acalls_mk (by kernel_rfl) fun G w vs hs hv ha => ?_
 have hr := ha 0 (by simp)
 have hvs : vs = #[vs.getD 0 undef] := by
  have hv1 : vs.size = 1 := hv
  apply Array.ext (by simpa using hv1)
  intro j hj hj'
  simp only [List.size_toArray, List.length_cons, List.length_nil] at hj'
  obtain rfl : j = 0 := by omega
  simp [Array.getD, hv1]
 rw [hvs]
 generalize vs.getD 0 undef = v at hr
 simp only [List.getElem_cons_zero] at hr
 cases hr
 refine (Tryz.strconv_Itoa_small n hn w).mono ?_
 rintro e w' ⟨rfl, rfl⟩
 exact ⟨_, rfl, .v (.string ⟨(Lib.decDigits n).toArray⟩), h, G, ⟨rfl, rfl⟩, GLe.refl _, Fr.refl _ _ _, hs, .v _ rfl⟩
open Nat renaming reduceAdd → nA, reduceSub → nB, reduceMul → nC, reduceLT → nD, reduceLeDiff → nE, reduceEqDiff → nF, reduceMod → nG, reduceDiv → nH, reducePow → nI
abbrev zPVE : List Nat := [0, 3, 4, 5, 6, 7, 8, 9]
abbrev zPVP : List (Nat × List Nat × List Nat) := [(1, [6, 9], [2]), (10, [], [11, 12]), (13, [], [])]
attribute [go_sem] zPVE zPVP
set_option maxRecDepth 100000
set_option maxHeartbeats 8000000
theorem oneK_len {l w : Int} (hl : 0 ≤ l ∧ l ≤ 12) (hw : 0 ≤ w ∧ w ≤ 12) : (oneK l w).length ≤ 6 := by
 have h : ∀ n : Fin 13, (dig n).length ≤ 2 := by decide
 have h1 := h ⟨l.toNat, by omega⟩
 have h2 := h ⟨w.toNat, by omega⟩
 simp only [oneK, dec_dig (show l.toNat < 20 by omega), dec_dig (show w.toNat < 20 by omega), List.length_append, List.length_cons, List.length_nil]
 simp only at h1 h2
 omega
theorem keyK_take : ∀ {L W : List Int} {j : Nat} (_ : j < L.length) (_ : j < W.length), keyK (L.take (j + 1)) (W.take (j + 1)) = keyK (L.take j) (W.take j) ++ oneK (L.getD j 0) (W.getD j 0)
 | l :: L, w :: W, 0, _, _ => by simp [keyK]
 | l :: L, w :: W, j + 1, h1, h2 => by
  have ih := keyK_take (L := L) (W := W) (j := j) (by simpa using h1) (by simpa using h2)
  simp only [List.take_succ_cons, keyK, List.getD_cons_succ, List.append_assoc] at ih ⊢
  rw [ih]
theorem keyK_len : ∀ {L W : List Int} (_ : ∀ x ∈ L, 0 ≤ x ∧ x ≤ 12) (_ : ∀ x ∈ W, 0 ≤ x ∧ x ≤ 12), (keyK L W).length ≤ 6 * L.length
 | [], _, _, _ => by simp [keyK]
 | l :: L, [], _, _ => by simp [keyK]
 | l :: L, w :: W, h1, h2 => by
  have ih := keyK_len (L := L) (W := W) (fun x hx => h1 x (by simp [hx])) (fun x hx => h2 x (by simp [hx]))
  have h3 := oneK_len (h1 l (by simp)) (h2 w (by simp))
  simp only [keyK, List.length_append, List.length_cons]; omega
theorem keyK_ne {L W : List Int} (h1 : 0 < L.length) (h2 : L.length = W.length) : keyK L W ≠ [] := by
 cases L with
 | nil => simp at h1
 | cons l L => cases W with
  | nil => simp at h2
  | cons w W => simp [keyK, oneK]
theorem one_str (l w : Int) : ((⟨(Lib.decDigits l.toNat).toArray⟩ ++ ⟨#[58]⟩ ++ ⟨(Lib.decDigits w.toNat).toArray⟩ ++ ⟨#[32]⟩ : ByteArray)).data.toList = oneK l w := by
 simp [oneK]
theorem g_key (i kl kw : Nat) (R X Y : AV) (L W : List Int) (h : Hp) (hi : h.H i = some (.cells [R, .arr 1 kl L.length, .arr 1 kw L.length, X, Y])) (hl : h.T kl = some (.cont 1 (L.map encI))) (hw : h.T kw = some (.cont 1 (W.map encI))) (hlw : L.length = W.length) (h0 : 0 < L.length) (hn : L.length ≤ 12)
  (b1 : ∀ x ∈ L, 0 ≤ x ∧ x ≤ 12) (b2 : ∀ x ∈ W, 0 ≤ x ∧ x ≤ 12) : ACalls Tryz.prog 146 [.ptr i 0] h (fun r h' => r = .v (.string ⟨(keyK L W).toArray⟩) ∧ h' = h) := by
 refine gE Tryz.func146 rfl (by kernel_rfl) 31 rfl fun c => ?_
 (first | refine gO rfl ?_ | ((first | refine gM zM35 ?_ | (with_reducible refine wM ?_ ?_) | ((with_reducible refine xR ?_); refine uE 5 zM35 zPVE zPVP 32 rfl (by kernel_rfl) ?_)) <;> ((try with_reducible intro K1 hK1); simp only [go_sem, ↓reduceIte, reduceCtorEq, nA, nB, nC, nD, nE, nF] <;> and_intros <;> first | (apply hK1; clear hK1 K1) | (intros; first | omega | decide | (simp_all <;> omega)) | skip))); (first | refine gO rfl ?_ | ((first | refine gM zM35 ?_ | (with_reducible refine wM ?_ ?_) | ((with_reducible refine xR ?_); refine uE 5 zM35 zPVE zPVP 32 rfl (by kernel_rfl) ?_)) <;> ((try with_reducible intro K1 hK1); simp only [go_sem, ↓reduceIte, reduceCtorEq, nA, nB, nC, nD, nE, nF] <;> and_intros <;> first | (apply hK1; clear hK1 K1) | (intros; first | omega | decide | (simp_all <;> omega)) | skip)))
 refine awp_seq (awp_allocT tyok rfl rfl ty177 (fun b hb => ?_))
 replace hb : h.H b = none := hb
 refine (?_ : Awp _ c _ _ ⟨((.ptr i 0) :: AV.junk :: ((.v (.string ⟨#[]⟩)) :: (.ptr b 0) :: (jnk 28 []))), [], ⟨upd h.H b (some (.obj 177 [.v (.pointer none), .v (.slice none 0 0)])), h.T⟩⟩)
 refine awp_ownBuf b 1 177 5 (cs := [.v (.pointer none), .v (.slice none 0 0)]) (upd_same _ _ _) rfl (fun k hk => ?_)
 replace hk : h.T k = none := hk
 have n1 : i ≠ b := fun e => by rw [← e, hi] at hb; cases hb
 have n2 : kl ≠ k := fun e => by rw [← e, hl] at hk; cases hk
 have n3 : kw ≠ k := fun e => by rw [← e, hw] at hk; cases hk
 have e1 : ∀ A, upd h.H b A i = some (.cells [R, .arr 1 kl L.length, .arr 1 kw L.length, X, Y]) := fun A => by rw [upd_other _ _ n1]; exact hi
 have e2 : ∀ A, upd h.T k A kl = some (.cont 1 (L.map encI)) := fun A => by rw [upd_other _ _ n2]; exact hl
 have e3 : ∀ A, upd h.T k A kw = some (.cont 1 (W.map encI)) := fun A => by rw [upd_other _ _ n3]; exact hw
 (repeat (first | refine gO rfl ?_ | ((first | refine gM zM35 ?_ | (with_reducible refine wM ?_ ?_) | ((with_reducible refine xR ?_); refine uE 5 zM35 zPVE zPVP 32 rfl (by kernel_rfl) ?_)) <;> ((try with_reducible intro K1 hK1); simp only [go_sem, ↓reduceIte, reduceCtorEq, nA, nB, nC, nD, nE, nF, upd_upd, e1] <;> and_intros <;> first | (apply hK1; clear hK1 K1) | (intros; first | omega | decide | (simp_all <;> omega)) | skip))))
 refine awp_loopC (rl false [0, 1, 2, 1, 5, 3, 20]) 0 (fun g s => ∃ (j : Nat) (X2 : AV), g + j = L.length ∧ (X2 = .v (.pointer none) ∨ X2 = .ptr b 0) ∧
  s = ⟨((.ptr i 0) :: AV.junk :: AV.junk :: ((.ptr b 0) :: (jnk 5 ((.arr 1 kl L.length) :: (.v (.int .i64 L.length)) :: (.v (.int .i64 j)) :: (jnk 20 []))))), [], ⟨upd h.H b (some (.obj 177 [X2, .arr 1 k (keyK (L.take j) (W.take j)).length])), upd h.T k (some (.buf 5 (rowB (keyK (L.take j) (W.take j)))))⟩⟩) L.length ⟨0, _, by omega, .inl rfl, rfl⟩ ?_
 rintro g _ ⟨j, X2, hj, hX2, rfl⟩
 (repeat (first | refine gO rfl ?_ | ((first | refine gM zM35 ?_ | (with_reducible refine wM ?_ ?_) | ((with_reducible refine xR ?_); refine uE 5 zM35 zPVE zPVP 32 rfl (by kernel_rfl) ?_)) <;> ((try with_reducible intro K1 hK1); simp only [go_sem, ↓reduceIte, reduceCtorEq, nA, nB, nC, nD, nE, nF] <;> and_intros <;> first | (apply hK1; clear hK1 K1) | (intros; first | omega | decide | (simp_all <;> omega)) | skip))))
 refine awp_cond (t := _) rfl (fun h5 => ?_) (fun h5 => ?_)
 ·simp only [decide_eq_true_eq] at h5
  have hjl : j < L.length := by omega
  have gl := getD_encI (L := L) (j := j) hjl
  have gw := getD_encI (L := W) (j := j) (by omega)
  have c1 := b1 _ (mem_getD L hjl)
  have c2 := b2 _ (mem_getD W (i := j) (by omega))
  have ht := keyK_take (L := L) (W := W) hjl (by omega)
  have hkl := keyK_len (L := L.take j) (W := W.take j) (fun x hx => b1 x (List.mem_of_mem_take hx)) (fun x hx => b2 x (List.mem_of_mem_take hx))
  rw [List.length_take] at hkl
  have hml : (L.map encI).length = L.length := by simp
  have hmw : (W.map encI).length = L.length := by simp [hlw]
  have h1l := oneK_len c1 c2
  have hos := one_str (L.getD j 0) (W.getD j 0)
  obtain ⟨l, hl9⟩ : ∃ l : Nat, L.getD j 0 = l := ⟨(L.getD j 0).toNat, by omega⟩
  obtain ⟨w, hw9⟩ : ∃ w : Nat, W.getD j 0 = w := ⟨(W.getD j 0).toNat, by omega⟩
  rw [hl9] at gl c1 ht hos h1l
  rw [hw9] at gw c2 ht hos h1l
  rw [Int.toNat_natCast, Int.toNat_natCast] at hos
  have hi1 := fun h => g_itoa l (by omega) h
  have hi2 := fun h => g_itoa w (by omega) h
  have hs1 : (⟨(Lib.decDigits l).toArray⟩ : ByteArray).size ≤ 2 := by
   have h9 : ∀ n : Fin 13, (dig n).length ≤ 2 := by decide
   have h8 := h9 ⟨l, by omega⟩
   rw [dec_dig (by omega)]
   exact h8
  have hs2 : (⟨(Lib.decDigits w).toArray⟩ : ByteArray).size ≤ 2 := by
   have h9 : ∀ n : Fin 13, (dig n).length ≤ 2 := by decide
   have h8 := h9 ⟨w, by omega⟩
   rw [dec_dig (by omega)]
   exact h8
  generalize (⟨(Lib.decDigits l).toArray⟩ : ByteArray) = S1 at *
  generalize (⟨(Lib.decDigits w).toArray⟩ : ByteArray) = S2 at *
  have q58 : (⟨#[58]⟩ : ByteArray).size = 1 := rfl
  have q32 : (⟨#[32]⟩ : ByteArray).size = 1 := rfl
  have q58' : #[(58 : UInt8)].size = 1 := rfl
  have q32' : #[(32 : UInt8)].size = 1 := rfl
  generalize keyK (L.take j) (W.take j) = kp at *
  (repeat (first | refine gO rfl ?_ | ((first | refine gM zM35 ?_ | (with_reducible refine wM ?_ ?_) | ((with_reducible refine xR ?_); refine uE 5 zM35 zPVE zPVP 32 rfl (by kernel_rfl) ?_)) <;> ((try with_reducible intro K1 hK1); simp only [go_sem, ↓reduceIte, reduceCtorEq, nA, nB, nC, nD, nE, nF, Int.toNat_natCast, e1, e2, e3, gl, gw, hml, hmw, hjl, ByteArray.size_append, q58, q32, q58', q32'] <;> and_intros <;> first | (apply hK1; clear hK1 K1) | (intros; first | omega | decide | (simp_all <;> omega)) | skip))))
  refine (hi1 _).mono ?_; rintro _ hz ⟨rfl, hh⟩; apply hK1; clear hK1 K1; rw [hh]; clear hh hz
  (repeat (first | refine gO rfl ?_ | ((first | refine gM zM35 ?_ | (with_reducible refine wM ?_ ?_) | ((with_reducible refine xR ?_); refine uE 5 zM35 zPVE zPVP 32 rfl (by kernel_rfl) ?_)) <;> ((try with_reducible intro K1 hK1); simp only [go_sem, ↓reduceIte, reduceCtorEq, nA, nB, nC, nD, nE, nF, Int.toNat_natCast, e1, e2, e3, gl, gw, hml, hmw, hjl, ByteArray.size_append, q58, q32, q58', q32'] <;> and_intros <;> first | (apply hK1; clear hK1 K1) | (intros; first | omega | decide | (simp_all <;> omega)) | skip))))
  refine (hi2 _).mono ?_; rintro _ hz ⟨rfl, hh⟩; apply hK1; clear hK1 K1; rw [hh]; clear hh hz
  (repeat (first | refine gO rfl ?_ | ((first | refine gM zM35 ?_ | (with_reducible refine wM ?_ ?_) | ((with_reducible refine xR ?_); refine uE 5 zM35 zPVE zPVP 32 rfl (by kernel_rfl) ?_)) <;> ((try with_reducible intro K1 hK1); simp only [go_sem, ↓reduceIte, reduceCtorEq, nA, nB, nC, nD, nE, nF, Int.toNat_natCast, e1, e2, e3, gl, gw, hml, hmw, hjl, ByteArray.size_append, q58, q32, q58', q32'] <;> and_intros <;> first | (apply hK1; clear hK1 K1) | (intros; first | omega | decide | (simp_all <;> omega)) | skip))))
  have hsz : (S1 ++ ⟨#[58]⟩ ++ S2 ++ ⟨#[32]⟩ : ByteArray).size ≤ 6 := by simp only [ByteArray.size_append, q58, q32]; omega
  have hS : kp.length + (S1 ++ ⟨#[58]⟩ ++ S2 ++ ⟨#[32]⟩ : ByteArray).size = (kp ++ oneK l w).length := by
   rw [List.length_append, ← hos]; rfl
  generalize (S1 ++ ⟨#[58]⟩ ++ S2 ++ ⟨#[32]⟩ : ByteArray) = S at *
  refine (g_writeString b k kp.length X2 S kp _ (upd_same _ _ _) hX2 (upd_same _ _ _) rfl (by omega)).mono ?_
  rintro _ h9 ⟨rfl, rfl⟩
  apply hK1; clear hK1 K1
  (repeat (first | refine gO rfl ?_ | ((first | refine gM zM35 ?_ | (with_reducible refine wM ?_ ?_) | ((with_reducible refine xR ?_); refine uE 5 zM35 zPVE zPVP 32 rfl (by kernel_rfl) ?_)) <;> ((try with_reducible intro K1 hK1); simp only [go_sem, ↓reduceIte, reduceCtorEq, nA, nB, nC, nD, nE, nF, upd_upd] <;> and_intros <;> first | (apply hK1; clear hK1 K1) | (intros; first | omega | decide | (simp_all <;> omega)) | skip))))
  exact ⟨g - 1, by omega, j + 1, _, by omega, .inr rfl, by rw [ht, hS, hos]; rfl⟩
 ·simp only [decide_eq_false_iff_not] at h5
  have hjl : j = L.length := by omega
  subst hjl
  have t1 : L.take L.length = L := List.take_of_length_le (Nat.le_refl _)
  have t2 : W.take L.length = W := List.take_of_length_le (by omega)
  rw [t1, t2]
  have hne := keyK_ne h0 hlw
  generalize keyK L W = kp at *
  (repeat (first | refine gO rfl ?_ | ((first | refine gM zM35 ?_ | (with_reducible refine wM ?_ ?_) | ((with_reducible refine xR ?_); refine uE 5 zM35 zPVE zPVP 32 rfl (by kernel_rfl) ?_)) <;> ((try with_reducible intro K1 hK1); simp only [go_sem, ↓reduceIte, reduceCtorEq, nA, nB, nC, nD, nE, nF] <;> and_intros <;> first | (apply hK1; clear hK1 K1) | (intros; first | omega | decide | (simp_all <;> omega)) | skip))))
  refine (g_bString b k X2 kp _ (upd_same _ _ _) (upd_same _ _ _) hne).mono ?_
  rintro _ h9 ⟨rfl, rfl⟩
  apply hK1; clear hK1 K1
  (repeat (first | refine gO rfl ?_ | ((first | refine gM zM35 ?_ | (with_reducible refine wM ?_ ?_) | ((with_reducible refine xR ?_); refine uE 5 zM35 zPVE zPVP 32 rfl (by kernel_rfl) ?_)) <;> ((try with_reducible intro K1 hK1); simp only [go_sem, ↓reduceIte, reduceCtorEq, nA, nB, nC, nD, nE, nF, upd_upd] <;> and_intros <;> first | (apply hK1; clear hK1 K1) | (intros; first | omega | decide | (simp_all <;> omega)) | skip))))
  simp only [Tryz.results146, go_sem, ↓reduceIte, reduceCtorEq, nA, nB, nC, nD, nE, nF]
  refine ⟨_, h, Weak.refl _, ⟨fun q => ?_, fun q => ?_⟩, rfl, rfl⟩
  ·by_cases e : q = b
   ·left; rw [e]; exact hb
   ·right; show _ = upd _ _ _ _; rw [upd_other _ _ e]
  ·by_cases e : q = k
   ·left; rw [e]; exact hk
   ·right; show _ = upd _ _ _ _; rw [upd_other _ _ e]
theorem arr_of_own {G : Gh} {h : Hp} {w w' : World} (hs : HSim G h w) (hb : RowKit.Below w.heap.size w w') {v : Value} {n z : Nat} {E : TypeId} {vs : List Value} {xs : List (List AV)} (ho : w'.ownsRow w.heap.size E z v n vs) (hn : xs.length = n) (h0 : 0 < n) (hz : ∀ x ∈ xs, x.length = z) (hr : RepL G xs.flatten vs) :
  ∃ G' k, h.T k = none ∧ GLe G G' ∧ Fr G h w G' { h with T := upd h.T k (some (.cont z xs)) } w' ∧ HSim G' { h with T := upd h.T k (some (.cont z xs)) } w' ∧ Rep G' (.arr z k n) v := by
 obtain ⟨hl, ho⟩ := ho
 rcases ho with ⟨_, e0⟩ | ⟨g, cap, cur, rfl, hg, hh, hnc, hcm, hsz, htk⟩
 ·omega
 ·have sm : Sim G [] ⟨[], [], h⟩ ⟨#[], []⟩ w := ⟨hs, Nat.le_refl _, fun t ht => by simp at ht, rfl, ⟨rfl, fun j b cs e => by simp at e, fun b hb => by simp at hb, List.nodup_nil⟩⟩
  obtain ⟨hT, s1, g1, f1⟩ := sm.newTok (o := .cont z []) (.inr (.inl ⟨z, rfl⟩))
  have hlen := flatten_len hz
  subst hn
  obtain ⟨G', rfl, s2, g2, f2⟩ := s1.setCont (k := G.nx) (z := z) (xs := xs) (B := g) (c := cap) (w' := w') (arr := cur) (E := E) (upd_same _ _ _) (fun b hb' _ => hb.block b hb') hh hsz
   (fun o => sm.hs.val_new hg o) hz (by rw [hlen, htk]; exact hr.mono g1) hnc hcm h0 (.inl (by simpa using h0)) (.inl hg) hb.os hb.tape hb.output hb.size
  simp only [upd_upd] at s2 f2
  exact ⟨_, G.nx, hT, g1.trans g2, f1.trans f2, s2.hs, rep_arr (upd_same _ _ _) (by simp [Gh.newTk]) hnc⟩
theorem flat_encI2 (l : List Int) : (l.map encI).flatten = l.map fun x => AV.v (.int .i64 x) := by
 induction l with
 | nil => rfl
 | cons x q ih => simp [encI, ih]
theorem repL_ints (G : Gh) (l : List Int) : RepL G (l.map encI).flatten (l.map (Value.int .i64)) := by
 rw [flat_encI2]
 refine ⟨by simp, fun j a b => ?_⟩
 simp only [List.getElem_map]
 exact ⟨.v _ rfl, rfl⟩
theorem repL_ints_inv {G : Gh} {l : List Int} {us : List Value} (h : RepL G (l.map encI).flatten us) : us = l.map (Value.int .i64) := by
 rw [flat_encI2] at h
 obtain ⟨h1, h2⟩ := h
 apply List.ext_getElem (by simpa using h1)
 intro j a b
 have h3 := (h2 j (by simpa using b) a).1
 simp only [List.getElem_map] at h3 ⊢
 generalize us[j] = y at h3
 cases h3; rfl
theorem g_cloneArr (kw n : Nat) (W : List Int) (h : Hp) (hT : h.T kw = some (.cont 1 (W.map encI))) (hn : W.length = n) (h0 : 0 < n) (hb : n ≤ 1000) :
  ACalls Tryz.prog 68 [.arr 1 kw n] h (fun r h' => ∃ q, h.T q = none ∧ r = .arr 1 q n ∧ h' = { h with T := upd h.T q (some (.cont 1 (W.map encI))) }) := by
 refine acalls_mk (by kernel_rfl) fun G w vs hs hv ha => ?_
 have hr := ha 0 (by simp)
 have hvs : vs = #[vs.getD 0 undef] := by
  have hv1 : vs.size = 1 := hv
  apply Array.ext (by simpa using hv1)
  intro j hj hj'
  simp only [List.size_toArray, List.length_cons, List.length_nil] at hj'
  obtain rfl : j = 0 := by omega
  simp [Array.getD, hv1]
 rw [hvs]
 generalize vs.getD 0 undef = v at hr
 simp only [List.getElem_cons_zero] at hr
 subst hn
 have hml : (W.map encI).length = W.length := by simp
 cases hr with
 | arr _ _ _ q m c ho =>
 obtain ⟨_, ⟨q', c', e2, _, _⟩, hm⟩ := ho
 rcases hs.tok kw _ hT with ⟨_, e1⟩ | ⟨tt, cur, E, htl, htm, htp, hth, hts, htc, htcm, htf, htz, hzx, htr⟩
 ·rw [e1] at hml; simp at hml; omega
 rw [htl] at hm
 obtain ⟨hxe, _⟩ := hm.2 (by rw [htm, hml])
 simp only [Value.slice.injEq] at hxe e2
 obtain ⟨rfl, rfl, rfl⟩ := hxe
 have hfl : (W.map encI).flatten.length = W.length := by rw [flatten_len hzx, hml, Nat.mul_one]
 rw [hfl] at htr
 have hcs := repL_ints_inv htr
 have hcell : ∀ j, j < W.length → w.cell? ⟨tt.g, 0 + j, none⟩ = some (.int .i64 (W.getD j 0)) := fun j hj => by
  have h1 : (cur.toList.take W.length)[j]? = some (.int .i64 (W.getD j 0)) := by rw [hcs, List.getElem?_map, List.getElem?_eq_getElem hj, List.getD_eq_getElem?_getD, List.getElem?_eq_getElem hj]; rfl
  rw [List.getElem?_take, if_pos hj] at h1
  rw [Nat.zero_add]; simpa [World.cell?, hth] using h1
 refine (Tryz.slices_Clone_int tt.g 0 W.length tt.c W w (by omega) (by omega) hcell).mono ?_
 rintro e w' ⟨v', rfl, own, _, bel⟩
 rw [List.take_of_length_le (by omega)] at own
 obtain ⟨G', k, hk, g1, f1, s1, r1⟩ := arr_of_own hs bel own (xs := W.map encI) hml h0 (fun x hx => by obtain ⟨y, _, rfl⟩ := List.mem_map.1 hx; rfl) (repL_ints G W)
 exact ⟨v', rfl, _, _, G', ⟨k, hk, rfl, rfl⟩, g1, f1, s1, r1⟩
abbrev zPWE : List Nat := [0, 1, 2, 3, 4, 5, 6, 7, 8, 9, 10, 11, 12, 13, 14]
abbrev zPWP : List (Nat × List Nat × List Nat) := [(15, [], [])]
abbrev zPXE : List Nat := [0, 1, 2, 3, 4, 5, 6, 7]
abbrev zPXP : List (Nat × List Nat × List Nat) := [(8, [], [])]
abbrev zPYE : List Nat := [0, 1, 2, 3, 4, 5, 6, 7]
abbrev zPYP : List (Nat × List Nat × List Nat) := [(8, [], [9, 10]), (11, [], [])]
abbrev zPZE : List Nat := [0, 1, 2, 3, 4, 5, 6, 7, 8, 9, 10]
abbrev zPZP : List (Nat × List Nat × List Nat) := [(11, [], [12, 13]), (14, [], [])]
attribute [go_sem] zPWE zPWP zPXE zPXP zPYE zPYP zPZE zPZP
def boolsL (ks : List ByteArray) : List (ByteArray × AV) := ks.map fun k => (k, .v (.bool true))
theorem mget_bools : ∀ (ks : List ByteArray) (k : ByteArray), (k ∈ ks → mget k (boolsL ks) = some (.v (.bool true))) ∧ (k ∉ ks → mget k (boolsL ks) = none)
 | [], k => ⟨fun h => by simp at h, fun _ => rfl⟩
 | q :: ks, k => by
  obtain ⟨h1, h2⟩ := mget_bools ks k
  simp only [boolsL, List.map_cons, mget]
  by_cases e : q = k
  ·subst e; simp
  ·rw [if_neg e]
   exact ⟨fun h => h1 ((List.mem_cons.1 h).resolve_left (fun e' => e e'.symm)), fun h => h2 fun h3 => h (List.mem_cons.2 (.inr h3))⟩
theorem mset_bools : ∀ (ks : List ByteArray) (k : ByteArray), ∃ ks', mset k (.v (.bool true)) (boolsL ks) = boolsL ks' ∧ ∀ q ∈ ks', q = k ∨ q ∈ ks
 | [], k => ⟨[k], rfl, fun q hq => .inl (by simpa using hq)⟩
 | q :: ks, k => by
  obtain ⟨ks', h1, h2⟩ := mset_bools ks k
  simp only [boolsL, List.map_cons, mset] at h1 ⊢
  by_cases e : q = k
  ·subst e
   rw [if_pos rfl]
   exact ⟨q :: ks, rfl, fun x hx => .inr hx⟩
  ·rw [if_neg e, h1]
   refine ⟨q :: ks', rfl, fun x hx => ?_⟩
   rcases List.mem_cons.1 hx with rfl | hx
   ·exact .inr (by simp)
   ·exact (h2 x hx).imp id fun h => by simp [h]
def mixW (W : List Int) (e : Nat) : List Int := (stepW W).take e ++ W.drop e
theorem mixW_len (W : List Int) (e : Nat) (h : e ≤ W.length) : (mixW W e).length = W.length := by simp [mixW, stepW]; omega
theorem mixW_zero (W : List Int) : mixW W 0 = W := by simp [mixW]
theorem mixW_all (W : List Int) : mixW W W.length = stepW W := by
 rw [mixW, List.drop_length, List.append_nil, List.take_of_length_le (by simp [stepW])]
theorem mixW_get {W : List Int} {e : Nat} (h : e < W.length) : (mixW W e).getD e 0 = W.getD e 0 := by
 have hl : ((stepW W).take e).length = e := by simp [stepW]; omega
 rw [mixW, List.getD_eq_getElem?_getD, List.getElem?_append_right (by omega), hl, Nat.sub_self, List.getElem?_drop, Nat.add_zero, List.getD_eq_getElem?_getD]
theorem mixW_set {W : List Int} {e : Nat} (h : e < W.length) : (mixW W e).set e (max 0 (W.getD e 0 - 1)) = mixW W (e + 1) := by
 have hl : ((stepW W).take e).length = e := by simp [stepW]; omega
 have hd : W.drop e = W.getD e 0 :: W.drop (e + 1) := by rw [List.drop_eq_getElem_cons h, List.getD_eq_getElem?_getD, List.getElem?_eq_getElem h]; rfl
 have ht : (stepW W).take (e + 1) = (stepW W).take e ++ [max 0 (W.getD e 0 - 1)] := by
  rw [List.take_add_one, ← getD_stepW h, List.getD_eq_getElem?_getD, List.getElem?_eq_getElem (by simp [stepW]; exact h)]; rfl
 rw [mixW, mixW, ht, hd, List.set_append_right _ _ (by omega), hl, Nat.sub_self, List.set_cons_zero, List.append_assoc]; rfl
theorem upd_id {α : Type} {f : Nat → Option α} {k : Nat} {x : Option α} (h : f k = x) : upd f k x = f := by
 funext j
 by_cases e : j = k
 ·rw [e, upd_same, h]
 ·rw [upd_other _ _ e]
structure FS (h : Hp) (i kl kw ko mb : Nat) (ws : List Wn) (L W : List Int) (out : List ByteArray) (ks : List ByteArray) : Prop where
 hi : h.H i = some (.cells [.row 3 (ws.map encW) none, .arr 1 kl ws.length, .arr 1 kw ws.length, .arr 1 ko out.length, .map mb])
 hm : h.H mb = some (.map (boolsL ks))
 tl : h.T kl = some (.cont 1 (L.map encI))
 tw : h.T kw = some (.cont 1 (W.map encI))
 tq : h.T ko = some (.cont 1 (out.map encS))
 n1 : kl ≠ kw ∧ kl ≠ ko ∧ kw ≠ ko
 n2 : mb ≠ i
structure FB (ws : List Wn) (m : Nat) (L W : List Int) (out : List ByteArray) : Prop where
 sp : SpS (apt ws) m L W
 al : out.length + m ≤ 12
theorem FB.l1 {ws : List Wn} {m : Nat} {L W : List Int} {out : List ByteArray} (h : FB ws m L W out) : L.length = ws.length ∧ W.length = ws.length := by
 have h1 := h.sp.la; have h2 := h.sp.lw; simp [apt] at h1; omega
theorem FB.pos {ws : List Wn} {m : Nat} {L W : List Int} {out : List ByteArray} (h : FB ws (m + 1) L W out) : 0 < L.length := by
 cases L with
 | nil => have := h.sp.sm; simp at this; omega
 | cons a L => simp
def FF (h : Hp) (kl kw ko : Nat) (h' : Hp) (kw' ko' : Nat) : Prop := ∀ q, h.T q ≠ none → q ≠ kl → q ≠ kw → q ≠ ko → h'.T q = h.T q ∧ q ≠ kw' ∧ q ≠ ko'
theorem g_find (ws : List Wn) (hn : ws.length ≤ 12) (i kl mb : Nat) : ∀ (m kw ko : Nat) (L W : List Int) (out ks : List ByteArray) (h : Hp), FS h i kl kw ko mb ws L W out ks → FB ws m L W out → BadOk (apt ws) ws.length ks →
  ACalls Tryz.prog 92 [.ptr i 0, .v (.int .i64 m)] h (fun r h' => ∃ (kw' ko' : Nat) (L' W' : List Int) (ks' : List ByteArray),
   match solve (apt ws) m L W with
   | some p => r = .v (.bool true) ∧ FS h' i kl kw' ko' mb ws L' W' (out ++ p.map (itm ws)) ks'
   | none => r = .v (.bool false) ∧ FS h' i kl kw' ko' mb ws L W out ks' ∧ BadOk (apt ws) ws.length ks' ∧ FF h kl kw ko h' kw' ko') := by
 intro m
 induction m with
 | zero =>
  intro kw ko L W out ks h hS hB hK
  refine gE Tryz.func92 rfl (by kernel_rfl) 140 rfl fun c => ?_
  (repeat (first | refine gO rfl ?_ | ((first | refine gM zM36 ?_ | (with_reducible refine wM ?_ ?_) | ((with_reducible refine xR ?_); refine uE 14 zM36 zPWE zPWP 142 rfl (by kernel_rfl) ?_) | ((with_reducible refine xS ?_); refine uD 16 zM36 zPXE zPXP 142 rfl (by kernel_rfl) ?_) | ((with_reducible refine xS ?_); refine uD 18 zM36 zPYE zPYP 142 rfl (by kernel_rfl) ?_) | ((with_reducible refine xS ?_); refine uD 21 zM36 zPZE zPZP 142 rfl (by kernel_rfl) ?_)) <;> ((try with_reducible intro K1 hK1); simp only [go_sem, ↓reduceIte, reduceCtorEq, nA, nB, nC, nD, nE, nF] <;> and_intros <;> first | (apply hK1; clear hK1 K1) | (intros; first | omega | decide | (simp_all <;> omega)) | skip))))
  refine awp_cond (t := _) rfl (fun _ => ?_) (fun h9 => by cases h9)
  (repeat (first | refine gO rfl ?_ | ((first | refine gM zM36 ?_ | (with_reducible refine wM ?_ ?_) | ((with_reducible refine xR ?_); refine uE 14 zM36 zPWE zPWP 142 rfl (by kernel_rfl) ?_) | ((with_reducible refine xS ?_); refine uD 16 zM36 zPXE zPXP 142 rfl (by kernel_rfl) ?_) | ((with_reducible refine xS ?_); refine uD 18 zM36 zPYE zPYP 142 rfl (by kernel_rfl) ?_) | ((with_reducible refine xS ?_); refine uD 21 zM36 zPZE zPZP 142 rfl (by kernel_rfl) ?_)) <;> ((try with_reducible intro K1 hK1); simp only [go_sem, ↓reduceIte, reduceCtorEq, nA, nB, nC, nD, nE, nF] <;> and_intros <;> first | (apply hK1; clear hK1 K1) | (intros; first | omega | decide | (simp_all <;> omega)) | skip))))
  simp only [Tryz.results92, go_sem, ↓reduceIte, reduceCtorEq, nA, nB, nC, nD, nE, nF]
  exact ⟨_, _, Weak.refl _, Hp.le.refl _, kw, ko, L, W, ks, rfl, by simpa using hS⟩
 | succ m ih =>
  intro kw ko L W out ks h hS hB hK
  obtain ⟨hl1, hw1⟩ := hB.l1
  have hp := hB.pos
  have e3 : (((m + 1 : Nat) : Int) == 0) = false := by simp; omega
  have ei := hS.hi
  have em := hS.hm
  have hkey := fun h2 (a : h2 = h) => g_key i kl kw (.row 3 (ws.map encW) none) (.arr 1 ko out.length) (.map mb) L W h2 (by rw [a, hl1]; exact ei) (by rw [a]; exact hS.tl) (by rw [a]; exact hS.tw) (by omega) hp (by omega) hB.sp.l0 hB.sp.w0
  have hmore := fun ks2 (h2 : BadOk (apt ws) ws.length ks2) h3 => h2.more (m := m + 1) (L := L) (W := W) hl1 hB.sp h3
  have hbad : (⟨(keyK L W).toArray⟩ : ByteArray) ∈ ks → solve (apt ws) (m + 1) L W = none := fun a => hK _ a (m + 1) L W hl1 hB.sp rfl
  generalize (⟨(keyK L W).toArray⟩ : ByteArray) = key at *
  refine gE Tryz.func92 rfl (by kernel_rfl) 140 rfl fun c => ?_
  (repeat (first | refine gO rfl ?_ | ((first | refine gM zM36 ?_ | (with_reducible refine wM ?_ ?_) | ((with_reducible refine xR ?_); refine uE 14 zM36 zPWE zPWP 142 rfl (by kernel_rfl) ?_) | ((with_reducible refine xS ?_); refine uD 16 zM36 zPXE zPXP 142 rfl (by kernel_rfl) ?_) | ((with_reducible refine xS ?_); refine uD 18 zM36 zPYE zPYP 142 rfl (by kernel_rfl) ?_) | ((with_reducible refine xS ?_); refine uD 21 zM36 zPZE zPZP 142 rfl (by kernel_rfl) ?_)) <;> ((try with_reducible intro K1 hK1); simp only [go_sem, ↓reduceIte, reduceCtorEq, nA, nB, nC, nD, nE, nF, e3] <;> and_intros <;> first | (apply hK1; clear hK1 K1) | (intros; first | omega | decide | (simp_all <;> omega)) | skip))))
  refine awp_cond (t := _) rfl (fun h9 => by cases h9) (fun _ => ?_)
  (repeat (first | refine gO rfl ?_ | ((first | refine gM zM36 ?_ | (with_reducible refine wM ?_ ?_) | ((with_reducible refine xR ?_); refine uE 14 zM36 zPWE zPWP 142 rfl (by kernel_rfl) ?_) | ((with_reducible refine xS ?_); refine uD 16 zM36 zPXE zPXP 142 rfl (by kernel_rfl) ?_) | ((with_reducible refine xS ?_); refine uD 18 zM36 zPYE zPYP 142 rfl (by kernel_rfl) ?_) | ((with_reducible refine xS ?_); refine uD 21 zM36 zPZE zPZP 142 rfl (by kernel_rfl) ?_)) <;> ((try with_reducible intro K1 hK1); simp only [go_sem, ↓reduceIte, reduceCtorEq, nA, nB, nC, nD, nE, nF] <;> and_intros <;> first | (apply hK1; clear hK1 K1) | (intros; first | omega | decide | (simp_all <;> omega)) | skip))))
  refine (hkey _ rfl).mono ?_; rintro _ hz ⟨rfl, hh⟩; apply hK1; clear hK1 K1; rw [hh]; clear hh hz
  clear hkey
  by_cases hin : key ∈ ks
  ·have hG := (mget_bools ks key).1 hin
   (repeat (first | refine gO rfl ?_ | ((first | refine gM zM36 ?_ | (with_reducible refine wM ?_ ?_) | ((with_reducible refine xR ?_); refine uE 14 zM36 zPWE zPWP 142 rfl (by kernel_rfl) ?_) | ((with_reducible refine xS ?_); refine uD 16 zM36 zPXE zPXP 142 rfl (by kernel_rfl) ?_) | ((with_reducible refine xS ?_); refine uD 18 zM36 zPYE zPYP 142 rfl (by kernel_rfl) ?_) | ((with_reducible refine xS ?_); refine uD 21 zM36 zPZE zPZP 142 rfl (by kernel_rfl) ?_)) <;> ((try with_reducible intro K1 hK1); simp only [go_sem, ↓reduceIte, reduceCtorEq, nA, nB, nC, nD, nE, nF, ei, em, hG] <;> and_intros <;> first | (apply hK1; clear hK1 K1) | (intros; first | omega | decide | (simp_all <;> omega)) | skip))))
   refine awp_cond (t := _) rfl (fun _ => ?_) (fun h9 => by cases h9)
   (repeat (first | refine gO rfl ?_ | ((first | refine gM zM36 ?_ | (with_reducible refine wM ?_ ?_) | ((with_reducible refine xR ?_); refine uE 14 zM36 zPWE zPWP 142 rfl (by kernel_rfl) ?_) | ((with_reducible refine xS ?_); refine uD 16 zM36 zPXE zPXP 142 rfl (by kernel_rfl) ?_) | ((with_reducible refine xS ?_); refine uD 18 zM36 zPYE zPYP 142 rfl (by kernel_rfl) ?_) | ((with_reducible refine xS ?_); refine uD 21 zM36 zPZE zPZP 142 rfl (by kernel_rfl) ?_)) <;> ((try with_reducible intro K1 hK1); simp only [go_sem, ↓reduceIte, reduceCtorEq, nA, nB, nC, nD, nE, nF] <;> and_intros <;> first | (apply hK1; clear hK1 K1) | (intros; first | omega | decide | (simp_all <;> omega)) | skip))))
   simp only [Tryz.results92, go_sem, ↓reduceIte, reduceCtorEq, nA, nB, nC, nD, nE, nF]
   refine ⟨_, _, Weak.refl _, Hp.le.refl _, kw, ko, L, W, ks, ?_⟩
   rw [hbad hin]
   exact ⟨rfl, hS, hK, fun q _ _ a b => ⟨rfl, a, b⟩⟩
  have hG := (mget_bools ks key).2 hin
  (repeat (first | refine gO rfl ?_ | ((first | refine gM zM36 ?_ | (with_reducible refine wM ?_ ?_) | ((with_reducible refine xR ?_); refine uE 14 zM36 zPWE zPWP 142 rfl (by kernel_rfl) ?_) | ((with_reducible refine xS ?_); refine uD 16 zM36 zPXE zPXP 142 rfl (by kernel_rfl) ?_) | ((with_reducible refine xS ?_); refine uD 18 zM36 zPYE zPYP 142 rfl (by kernel_rfl) ?_) | ((with_reducible refine xS ?_); refine uD 21 zM36 zPZE zPZP 142 rfl (by kernel_rfl) ?_)) <;> ((try with_reducible intro K1 hK1); simp only [go_sem, ↓reduceIte, reduceCtorEq, nA, nB, nC, nD, nE, nF, ei, em, hG] <;> and_intros <;> first | (apply hK1; clear hK1 K1) | (intros; first | omega | decide | (simp_all <;> omega)) | skip))))
  refine awp_cond (t := _) rfl (fun h9 => by cases h9) (fun _ => ?_)
  (repeat (first | refine gO rfl ?_ | ((first | refine gM zM36 ?_ | (with_reducible refine wM ?_ ?_) | ((with_reducible refine xR ?_); refine uE 14 zM36 zPWE zPWP 142 rfl (by kernel_rfl) ?_) | ((with_reducible refine xS ?_); refine uD 16 zM36 zPXE zPXP 142 rfl (by kernel_rfl) ?_) | ((with_reducible refine xS ?_); refine uD 18 zM36 zPYE zPYP 142 rfl (by kernel_rfl) ?_) | ((with_reducible refine xS ?_); refine uD 21 zM36 zPZE zPZP 142 rfl (by kernel_rfl) ?_)) <;> ((try with_reducible intro K1 hK1); simp only [go_sem, ↓reduceIte, reduceCtorEq, nA, nB, nC, nD, nE, nF, ei] <;> and_intros <;> first | (apply hK1; clear hK1 K1) | (intros; first | omega | decide | (simp_all <;> omega)) | skip))))
  have hHW : solve (apt ws) (m + 1) L W = fsome (tryI (apt ws) m L W) 0 ws.length := by rw [solve_succ, hl1]
  have HB := Lib.hid hB
  rw [hHW] at hmore ⊢
  clear hB hbad hG ei em hHW
  refine awp_loopC (rl false [0, 2, 3, 1, 17, 3, 116]) 0 (fun g s => ∃ (j kw2 ko2 : Nat) (ks2 : List ByteArray) (h2 : Hp), g + j = ws.length ∧ Go.RowKit.Hid (fsome (tryI (apt ws) m L W) 0 ws.length = fsome (tryI (apt ws) m L W) j (ws.length - j)) ∧ FS h2 i kl kw2 ko2 mb ws L W out ks2 ∧ BadOk (apt ws) ws.length ks2 ∧ FF h kl kw ko h2 kw2 ko2 ∧
   s = ⟨((.ptr i 0) :: (.v (.int .i64 (m + 1 : Nat))) :: (jnk 3 ((.v (.string key)) :: (jnk 17 ((.row 3 (ws.map encW) none) :: (.v (.int .i64 ws.length)) :: (.v (.int .i64 j)) :: (jnk 116 [])))))), [], h2⟩) ws.length ⟨0, kw, ko, ks, h, by omega, Lib.hid rfl, hS, hK, fun q _ _ a b => ⟨rfl, a, b⟩, rfl⟩ ?_
  rintro g _ ⟨j, kw2, ko2, ks2, h2, hj, HW, hS2, hK2, hF2, rfl⟩
  clear hS hK hin
  (repeat (first | refine gO rfl ?_ | ((first | refine gM zM36 ?_ | (with_reducible refine wM ?_ ?_) | ((with_reducible refine xR ?_); refine uE 14 zM36 zPWE zPWP 142 rfl (by kernel_rfl) ?_) | ((with_reducible refine xS ?_); refine uD 16 zM36 zPXE zPXP 142 rfl (by kernel_rfl) ?_) | ((with_reducible refine xS ?_); refine uD 18 zM36 zPYE zPYP 142 rfl (by kernel_rfl) ?_) | ((with_reducible refine xS ?_); refine uD 21 zM36 zPZE zPZP 142 rfl (by kernel_rfl) ?_)) <;> ((try with_reducible intro K1 hK1); simp only [go_sem, ↓reduceIte, reduceCtorEq, nA, nB, nC, nD, nE, nF] <;> and_intros <;> first | (apply hK1; clear hK1 K1) | (intros; first | omega | decide | (simp_all <;> omega)) | skip))))
  refine awp_cond (t := _) rfl (fun h5 => ?_) (fun h5 => ?_)
  ·simp only [decide_eq_true_eq] at h5
   have hjl : j < ws.length := by omega
   have gx : (ws.map encW).getD j [] = [.v (.string (ws.getD j default).1), .v (.int .i64 (ws.getD j default).2.1), .v (.int .i64 (ws.getD j default).2.2)] := getD_enc encW ws j default hjl
   have gl := getD_encI (L := L) (j := j) (by omega)
   have gw := getD_encI (L := W) (j := j) (by omega)
   have ga : (apt ws).getD j 0 = (ws.getD j default).2.2 := by simp [apt, List.getD_eq_getElem?_getD, hjl]
   have gi : itm ws j = (ws.getD j default).1 := rfl
   have c1 := HB.out.sp.l0 _ (mem_getD L (i := j) (by omega))
   have c2 := HB.out.sp.w0 _ (mem_getD W (i := j) (by omega))
   have c3 := HB.out.sp.a0 _ (mem_getD (apt ws) (i := j) (by simpa [apt] using hjl))
   have a12 := HB.out.al
   rw [show ws.length - j = (ws.length - (j + 1)) + 1 by omega] at HW
   have htI : tryI (apt ws) m L W j = if L.getD j 0 = 0 ∨ 0 < W.getD j 0 then none else (solve (apt ws) m (L.set j (L.getD j 0 - 1)) ((stepW W).set j ((apt ws).getD j 0))).map (j :: ·) := rfl
   have hNx := fun a => HB.out.sp.next (i := j) (by omega) a
   rw [ga] at c3 htI hNx
   have hml : (L.map encI).length = ws.length := by simpa using hl1
   have hmw : (W.map encI).length = ws.length := by simpa using hw1
   have r1 := hS2.hi
   have r5 := hS2.tl
   have r6 := hS2.tw
   by_cases hz : L.getD j 0 = 0
   ·have hd : (L.getD j 0 == 0) = true := by rw [hz]; rfl
    rw [if_pos (.inl hz)] at htI
    have HW2 := Lib.hid (HW.out.trans (fsome_none htI))
    clear HW htI hNx
    generalize L.getD j 0 = l at *
    generalize W.getD j 0 = c at *
    generalize ws.getD j default = x at *
    (repeat (first | refine gO rfl ?_ | ((first | refine gM zM36 ?_ | (with_reducible refine wM ?_ ?_) | ((with_reducible refine xR ?_); refine uE 14 zM36 zPWE zPWP 142 rfl (by kernel_rfl) ?_) | ((with_reducible refine xS ?_); refine uD 16 zM36 zPXE zPXP 142 rfl (by kernel_rfl) ?_) | ((with_reducible refine xS ?_); refine uD 18 zM36 zPYE zPYP 142 rfl (by kernel_rfl) ?_) | ((with_reducible refine xS ?_); refine uD 21 zM36 zPZE zPZP 142 rfl (by kernel_rfl) ?_)) <;> ((try with_reducible intro K1 hK1); simp only [go_sem, ↓reduceIte, reduceCtorEq, nA, nB, nC, nD, nE, nF, Int.toNat_natCast, gx, r1, r5, r6, gl, gw, hd, hml, hmw, hjl] <;> and_intros <;> first | (apply hK1; clear hK1 K1) | (intros; first | omega | decide | (simp_all <;> omega)) | skip))))
    refine awp_cond (t := _) rfl (fun _ => ?_) (fun h9 => by cases h9)
    (repeat (first | refine gO rfl ?_ | ((first | refine gM zM36 ?_ | (with_reducible refine wM ?_ ?_) | ((with_reducible refine xR ?_); refine uE 14 zM36 zPWE zPWP 142 rfl (by kernel_rfl) ?_) | ((with_reducible refine xS ?_); refine uD 16 zM36 zPXE zPXP 142 rfl (by kernel_rfl) ?_) | ((with_reducible refine xS ?_); refine uD 18 zM36 zPYE zPYP 142 rfl (by kernel_rfl) ?_) | ((with_reducible refine xS ?_); refine uD 21 zM36 zPZE zPZP 142 rfl (by kernel_rfl) ?_)) <;> ((try with_reducible intro K1 hK1); simp only [go_sem, ↓reduceIte, reduceCtorEq, nA, nB, nC, nD, nE, nF] <;> and_intros <;> first | (apply hK1; clear hK1 K1) | (intros; first | omega | decide | (simp_all <;> omega)) | skip))))
    exact ⟨g - 1, by omega, j + 1, kw2, ko2, ks2, h2, by omega, HW2, hS2, hK2, hF2, rfl⟩
   ·have hd : (L.getD j 0 == 0) = false := beq_eq_false_iff_ne.2 hz
    by_cases hw : 0 < W.getD j 0
    ·rw [if_pos (.inr hw)] at htI
     have HW2 := Lib.hid (HW.out.trans (fsome_none htI))
     clear HW htI hNx
     generalize L.getD j 0 = l at *
     generalize W.getD j 0 = c at *
     generalize ws.getD j default = x at *
     have hd2 : decide (0 < c) = true := by simpa using hw
     (repeat (first | refine gO rfl ?_ | ((first | refine gM zM36 ?_ | (with_reducible refine wM ?_ ?_) | ((with_reducible refine xR ?_); refine uE 14 zM36 zPWE zPWP 142 rfl (by kernel_rfl) ?_) | ((with_reducible refine xS ?_); refine uD 16 zM36 zPXE zPXP 142 rfl (by kernel_rfl) ?_) | ((with_reducible refine xS ?_); refine uD 18 zM36 zPYE zPYP 142 rfl (by kernel_rfl) ?_) | ((with_reducible refine xS ?_); refine uD 21 zM36 zPZE zPZP 142 rfl (by kernel_rfl) ?_)) <;> ((try with_reducible intro K1 hK1); simp only [go_sem, ↓reduceIte, reduceCtorEq, nA, nB, nC, nD, nE, nF, Int.toNat_natCast, gx, r1, r5, r6, gl, gw, hd, hd2, hml, hmw, hjl] <;> and_intros <;> first | (apply hK1; clear hK1 K1) | (intros; first | omega | decide | (simp_all <;> omega)) | skip))))
     refine awp_cond (t := _) rfl (fun _ => ?_) (fun h9 => by cases h9)
     (repeat (first | refine gO rfl ?_ | ((first | refine gM zM36 ?_ | (with_reducible refine wM ?_ ?_) | ((with_reducible refine xR ?_); refine uE 14 zM36 zPWE zPWP 142 rfl (by kernel_rfl) ?_) | ((with_reducible refine xS ?_); refine uD 16 zM36 zPXE zPXP 142 rfl (by kernel_rfl) ?_) | ((with_reducible refine xS ?_); refine uD 18 zM36 zPYE zPYP 142 rfl (by kernel_rfl) ?_) | ((with_reducible refine xS ?_); refine uD 21 zM36 zPZE zPZP 142 rfl (by kernel_rfl) ?_)) <;> ((try with_reducible intro K1 hK1); simp only [go_sem, ↓reduceIte, reduceCtorEq, nA, nB, nC, nD, nE, nF] <;> and_intros <;> first | (apply hK1; clear hK1 K1) | (intros; first | omega | decide | (simp_all <;> omega)) | skip))))
     exact ⟨g - 1, by omega, j + 1, kw2, ko2, ks2, h2, by omega, HW2, hS2, hK2, hF2, rfl⟩
    ·have hno : ¬ (L.getD j 0 = 0 ∨ 0 < W.getD j 0) := not_or.2 ⟨hz, hw⟩
     have hsp2 := hNx hno
     rw [if_neg hno] at htI
     clear hNx
     have hd2 : decide (0 < W.getD j 0) = false := by simpa using hw
     have hrestL : (L.set j (L.getD j 0 - 1)).set j (L.getD j 0) = L := by
      rw [List.set_set]
      apply List.ext_getElem?
      intro q
      by_cases e : j = q
      ·subst e; rw [List.getElem?_set_self (by omega), List.getD_eq_getElem?_getD, List.getElem?_eq_getElem (by omega)]; rfl
      ·rw [List.getElem?_set_ne e]
     have gl2 : ((L.set j (L.getD j 0 - 1)).map encI).getD j [] = [.v (.int .i64 (L.getD j 0 - 1))] := by rw [getD_encI (by simp; omega), getD_set_eq (by omega)]
     have sl := fun x => set_encI L j x
     have sl2 : ∀ x, ((L.set j (L.getD j 0 - 1)).map encI).set j [.v (.int .i64 x)] = ((L.set j (L.getD j 0 - 1)).set j x).map encI := fun x => set_encI _ j x
     have sw := fun x => set_encI (stepW W) j x
     have gs : ((stepW W).map encI).getD j [] = [.v (.int .i64 ((stepW W).getD j 0))] := getD_encI (by simp [stepW]; omega)
     have hms : ((stepW W).map encI).length = ws.length := by simp [stepW]; omega
     have hml2 : ((L.set j (L.getD j 0 - 1)).map encI).length = ws.length := by simpa using hl1
     have HW2 := Lib.hid HW.out
     have n1 := hS2.n1
     have n2 := hS2.n2
     clear HW hd
     have hd : (L.getD j 0 == 0) = false := beq_eq_false_iff_ne.2 hz
     generalize L.getD j 0 = l at *
     generalize hcW : W.getD j 0 = c at *
     generalize eL2 : L.set j (l - 1) = L2 at *
     generalize ws.getD j default = x at *
     (repeat (first | refine gO rfl ?_ | ((first | refine gM zM36 ?_ | (with_reducible refine wM ?_ ?_) | ((with_reducible refine xR ?_); refine uE 14 zM36 zPWE zPWP 142 rfl (by kernel_rfl) ?_) | ((with_reducible refine xS ?_); refine uD 16 zM36 zPXE zPXP 142 rfl (by kernel_rfl) ?_) | ((with_reducible refine xS ?_); refine uD 18 zM36 zPYE zPYP 142 rfl (by kernel_rfl) ?_) | ((with_reducible refine xS ?_); refine uD 21 zM36 zPZE zPZP 142 rfl (by kernel_rfl) ?_)) <;> ((try with_reducible intro K1 hK1); simp only [go_sem, ↓reduceIte, reduceCtorEq, nA, nB, nC, nD, nE, nF, Int.toNat_natCast, gx, r1, r5, r6, gl, gw, hd, hd2, hml, hmw, hjl] <;> and_intros <;> first | (apply hK1; clear hK1 K1) | (intros; first | omega | decide | (simp_all <;> omega)) | skip))))
     refine awp_cond (t := _) rfl (fun h9 => by cases h9) (fun _ => ?_)
     (repeat (first | refine gO rfl ?_ | ((first | refine gM zM36 ?_ | (with_reducible refine wM ?_ ?_) | ((with_reducible refine xR ?_); refine uE 14 zM36 zPWE zPWP 142 rfl (by kernel_rfl) ?_) | ((with_reducible refine xS ?_); refine uD 16 zM36 zPXE zPXP 142 rfl (by kernel_rfl) ?_) | ((with_reducible refine xS ?_); refine uD 18 zM36 zPYE zPYP 142 rfl (by kernel_rfl) ?_) | ((with_reducible refine xS ?_); refine uD 21 zM36 zPZE zPZP 142 rfl (by kernel_rfl) ?_)) <;> ((try with_reducible intro K1 hK1); simp only [go_sem, ↓reduceIte, reduceCtorEq, nA, nB, nC, nD, nE, nF, r1] <;> and_intros <;> first | (apply hK1; clear hK1 K1) | (intros; first | omega | decide | (simp_all <;> omega)) | skip))))
     refine (g_cloneArr kw2 ws.length W _ r6 hw1 (by omega) (by omega)).mono ?_
     rintro _ _ ⟨kc, hkc, rfl, rfl⟩
     refine hK1 _ ?_; clear hK1 K1
     have m1 : kl ≠ kc := fun e => by rw [← e, r5] at hkc; cases hkc
     have m2 : kw2 ≠ kc := fun e => by rw [← e, r6] at hkc; cases hkc
     have m3 : ko2 ≠ kc := fun e => by rw [← e, hS2.tq] at hkc; cases hkc
     (repeat (first | refine gO rfl ?_ | ((first | refine gM zM36 ?_ | (with_reducible refine wM ?_ ?_) | ((with_reducible refine xR ?_); refine uE 14 zM36 zPWE zPWP 142 rfl (by kernel_rfl) ?_) | ((with_reducible refine xS ?_); refine uD 16 zM36 zPXE zPXP 142 rfl (by kernel_rfl) ?_) | ((with_reducible refine xS ?_); refine uD 18 zM36 zPYE zPYP 142 rfl (by kernel_rfl) ?_) | ((with_reducible refine xS ?_); refine uD 21 zM36 zPZE zPZP 142 rfl (by kernel_rfl) ?_)) <;> ((try with_reducible intro K1 hK1); simp only [go_sem, ↓reduceIte, reduceCtorEq, nA, nB, nC, nD, nE, nF, r1] <;> and_intros <;> first | (apply hK1; clear hK1 K1) | (intros; first | omega | decide | (simp_all <;> omega)) | skip))))
     refine awp_loopC (rl false [0, 2, 3, 4, 14, 3, 30, 3, 83]) 1 (fun g2 s => ∃ e : Nat, g2 + e = ws.length ∧
      s = ⟨((.ptr i 0) :: (.v (.int .i64 (m + 1 : Nat))) :: (jnk 3 ((.v (.string key)) :: (.v (.int .i64 j)) :: (.loc 0 0) :: (.arr 1 kc ws.length) :: (jnk 14 ((.row 3 (ws.map encW) none) :: (.v (.int .i64 ws.length)) :: (.v (.int .i64 j)) :: (jnk 30 ((.arr 1 kw2 ws.length) :: (.v (.int .i64 ws.length)) :: (.v (.int .i64 e)) :: (jnk 83 [])))))))),
       [[.v (.string x.1), .v (.int .i64 x.2.1), .v (.int .i64 x.2.2)]], ⟨h2.H, upd (upd h2.T kc (some (.cont 1 (W.map encI)))) kw2 (some (.cont 1 ((mixW W e).map encI)))⟩⟩) ws.length ⟨0, by omega, by
        rw [mixW_zero, upd_id (show upd h2.T kc _ kw2 = _ by rw [upd_other _ _ m2]; exact r6)]; rfl⟩ ?_
     rintro g2 _ ⟨e, he, rfl⟩
     (repeat (first | refine gO rfl ?_ | ((first | refine gM zM36 ?_ | (with_reducible refine wM ?_ ?_) | ((with_reducible refine xR ?_); refine uE 14 zM36 zPWE zPWP 142 rfl (by kernel_rfl) ?_) | ((with_reducible refine xS ?_); refine uD 16 zM36 zPXE zPXP 142 rfl (by kernel_rfl) ?_) | ((with_reducible refine xS ?_); refine uD 18 zM36 zPYE zPYP 142 rfl (by kernel_rfl) ?_) | ((with_reducible refine xS ?_); refine uD 21 zM36 zPZE zPZP 142 rfl (by kernel_rfl) ?_)) <;> ((try with_reducible intro K1 hK1); simp only [go_sem, ↓reduceIte, reduceCtorEq, nA, nB, nC, nD, nE, nF] <;> and_intros <;> first | (apply hK1; clear hK1 K1) | (intros; first | omega | decide | (simp_all <;> omega)) | skip))))
     refine awp_cond (t := _) rfl (fun h7 => ?_) (fun h7 => ?_)
     ·simp only [decide_eq_true_eq] at h7
      have hel : e < ws.length := by omega
      have x1 := getD_encI (L := mixW W e) (j := e) (by rw [mixW_len _ _ (by omega)]; omega)
      rw [mixW_get (by omega)] at x1
      have x2 := fun y => set_encI (mixW W e) e y
      have x3 := mixW_set (W := W) (e := e) (by omega)
      have x4 : ((mixW W e).map encI).length = ws.length := by rw [List.length_map, mixW_len _ _ (by omega)]; omega
      have x5 := HB.out.sp.w0 _ (mem_getD W (i := e) (by omega))
      generalize W.getD e 0 = y at *
      (repeat (first | refine gO rfl ?_ | ((first | refine gM zM36 ?_ | (with_reducible refine wM ?_ ?_) | ((with_reducible refine xR ?_); refine uE 14 zM36 zPWE zPWP 142 rfl (by kernel_rfl) ?_) | ((with_reducible refine xS ?_); refine uD 16 zM36 zPXE zPXP 142 rfl (by kernel_rfl) ?_) | ((with_reducible refine xS ?_); refine uD 18 zM36 zPYE zPYP 142 rfl (by kernel_rfl) ?_) | ((with_reducible refine xS ?_); refine uD 21 zM36 zPZE zPZP 142 rfl (by kernel_rfl) ?_)) <;> ((try with_reducible intro K1 hK1); simp only [go_sem, ↓reduceIte, reduceCtorEq, nA, nB, nC, nD, nE, nF, Int.toNat_natCast, r1, x1, x2, x3, x4, hel, upd_upd] <;> and_intros <;> first | (apply hK1; clear hK1 K1) | (intros; first | omega | decide | (simp_all <;> omega)) | skip))))
      exact ⟨g2 - 1, by omega, e + 1, by omega, rfl⟩
     ·simp only [decide_eq_false_iff_not] at h7
      have hel : e = W.length := by omega
      subst hel
      rw [mixW_all]
      have y5 : ∀ A B, upd (upd h2.T kc A) kw2 B kl = some (.cont 1 (L.map encI)) := fun A B => by rw [upd_other _ _ n1.1, upd_other _ _ m1]; exact r5
      have y6 : ∀ A B C, upd (upd (upd h2.T kc A) kw2 B) kl C ko2 = some (.cont 1 (out.map encS)) := fun A B C => by rw [upd_other _ _ (Ne.symm n1.2.1), upd_other _ _ (Ne.symm n1.2.2), upd_other _ _ m3]; exact hS2.tq
      have hlo : (out.map encS).length = out.length := by simp
      have hao : out.map encS ++ [[.v (.string x.1)]] = (out ++ [x.1]).map encS := by simp [encS]
      have hmo : ((m + 1 : Nat) : Int) - 1 = (m : Int) := by omega
      (repeat (first | refine gO rfl ?_ | ((first | refine gM zM36 ?_ | (with_reducible refine wM ?_ ?_) | ((with_reducible refine xR ?_); refine uE 14 zM36 zPWE zPWP 142 rfl (by kernel_rfl) ?_) | ((with_reducible refine xS ?_); refine uD 16 zM36 zPXE zPXP 142 rfl (by kernel_rfl) ?_) | ((with_reducible refine xS ?_); refine uD 18 zM36 zPYE zPYP 142 rfl (by kernel_rfl) ?_) | ((with_reducible refine xS ?_); refine uD 21 zM36 zPZE zPZP 142 rfl (by kernel_rfl) ?_)) <;> ((try with_reducible intro K1 hK1); simp only [go_sem, ↓reduceIte, reduceCtorEq, nA, nB, nC, nD, nE, nF, Int.toNat_natCast, r1, gs, sw, hms, y5, gl, sl, eL2, hml, hjl, upd_upd, y6, hlo, hao, hmo] <;> and_intros <;> first | (apply hK1; clear hK1 K1) | (intros; first | omega | decide | (simp_all <;> omega)) | skip))))
      have hS3 : FS ⟨upd h2.H i (some (.cells [.row 3 (ws.map encW) none, .arr 1 kl ws.length, .arr 1 kw2 ws.length, .arr 1 ko2 (out.length + 1), .map mb])), upd (upd (upd (upd h2.T kc (some (.cont 1 (W.map encI)))) kw2 (some (.cont 1 (((stepW W).set j x.2.2).map encI)))) kl (some (.cont 1 (L2.map encI)))) ko2 (some (.cont 1 ((out ++ [x.1]).map encS)))⟩
        i kl kw2 ko2 mb ws L2 ((stepW W).set j x.2.2) (out ++ [x.1]) ks2 := by
       refine ⟨?_, ?_, ?_, ?_, upd_same _ _ _, n1, n2⟩
       ·show upd _ _ _ _ = _; rw [upd_same]; simp
       ·show upd _ _ _ _ = _; rw [upd_other _ _ n2]; exact hS2.hm
       ·show upd _ _ _ _ = _; rw [upd_other _ _ n1.2.1, upd_same]
       ·show upd _ _ _ _ = _; rw [upd_other _ _ n1.2.2, upd_other _ _ (Ne.symm n1.1), upd_same]
      have hB3 : FB ws m L2 ((stepW W).set j x.2.2) (out ++ [x.1]) := ⟨hsp2, by simp; omega⟩
      have hkcA : upd (upd (upd (upd h2.T kc (some (.cont 1 (W.map encI)))) kw2 (some (.cont 1 (((stepW W).set j x.2.2).map encI)))) kl (some (.cont 1 (L2.map encI)))) ko2 (some (.cont 1 ((out ++ [x.1]).map encS))) kc = some (.cont 1 (W.map encI)) := by
       rw [upd_other _ _ (Ne.symm m3), upd_other _ _ (Ne.symm m1), upd_other _ _ (Ne.symm m2), upd_same]
      have hothA : ∀ q, h2.T q ≠ none → q ≠ kl → q ≠ kw2 → q ≠ ko2 → upd (upd (upd (upd h2.T kc (some (.cont 1 (W.map encI)))) kw2 (some (.cont 1 (((stepW W).set j x.2.2).map encI)))) kl (some (.cont 1 (L2.map encI)))) ko2 (some (.cont 1 ((out ++ [x.1]).map encS))) q = h2.T q := fun q a b c d => by
       have hqc : q ≠ kc := fun e => a (by rw [e]; exact hkc)
       rw [upd_other _ _ d, upd_other _ _ b, upd_other _ _ c, upd_other _ _ hqc]
      refine (ih kw2 ko2 L2 ((stepW W).set j x.2.2) (out ++ [x.1]) ks2 _ hS3 hB3 hK2).mono ?_
      rintro r9 h9 ⟨kw3, ko3, L3, W3, ks3, hm⟩
      cases e : solve (apt ws) m L2 ((stepW W).set j x.2.2) with
      | some p =>
       rw [e] at hm htI
       obtain ⟨rfl, hS4⟩ := hm
       refine hK1 _ ?_; clear hK1 K1
       (repeat (first | refine gO rfl ?_ | ((first | refine gM zM36 ?_ | (with_reducible refine wM ?_ ?_) | ((with_reducible refine xR ?_); refine uE 14 zM36 zPWE zPWP 142 rfl (by kernel_rfl) ?_) | ((with_reducible refine xS ?_); refine uD 16 zM36 zPXE zPXP 142 rfl (by kernel_rfl) ?_) | ((with_reducible refine xS ?_); refine uD 18 zM36 zPYE zPYP 142 rfl (by kernel_rfl) ?_) | ((with_reducible refine xS ?_); refine uD 21 zM36 zPZE zPZP 142 rfl (by kernel_rfl) ?_)) <;> ((try with_reducible intro K1 hK1); simp only [go_sem, ↓reduceIte, reduceCtorEq, nA, nB, nC, nD, nE, nF] <;> and_intros <;> first | (apply hK1; clear hK1 K1) | (intros; first | omega | decide | (simp_all <;> omega)) | skip))))
       refine awp_cond (t := _) rfl (fun _ => ?_) (fun h9 => by cases h9)
       (repeat (first | refine gO rfl ?_ | ((first | refine gM zM36 ?_ | (with_reducible refine wM ?_ ?_) | ((with_reducible refine xR ?_); refine uE 14 zM36 zPWE zPWP 142 rfl (by kernel_rfl) ?_) | ((with_reducible refine xS ?_); refine uD 16 zM36 zPXE zPXP 142 rfl (by kernel_rfl) ?_) | ((with_reducible refine xS ?_); refine uD 18 zM36 zPYE zPYP 142 rfl (by kernel_rfl) ?_) | ((with_reducible refine xS ?_); refine uD 21 zM36 zPZE zPZP 142 rfl (by kernel_rfl) ?_)) <;> ((try with_reducible intro K1 hK1); simp only [go_sem, ↓reduceIte, reduceCtorEq, nA, nB, nC, nD, nE, nF] <;> and_intros <;> first | (apply hK1; clear hK1 K1) | (intros; first | omega | decide | (simp_all <;> omega)) | skip))))
       simp only [Tryz.results92, go_sem, ↓reduceIte, reduceCtorEq, nA, nB, nC, nD, nE, nF]
       refine ⟨_, _, Weak.refl _, Hp.le.refl _, kw3, ko3, L3, W3, ks3, ?_⟩
       rw [HW2.out, fsome_some (x := j :: p) (by rw [htI]; rfl)]
       refine ⟨rfl, ?_⟩
       rw [List.map_cons, gi, List.append_cons]
       exact hS4
      | none =>
       rw [e] at hm htI
       obtain ⟨rfl, hS4, hK4, hF4⟩ := hm
       have HW3 := Lib.hid (HW2.out.trans (fsome_none (by rw [htI]; rfl)))
       have hkc4 := hF4 kc (fun e9 => absurd (hkcA.symm.trans e9) (by simp)) (Ne.symm m1) (Ne.symm m2) (Ne.symm m3)
       have hTc : h9.T kc = some (.cont 1 (W.map encI)) := hkc4.1.trans hkcA
       refine hK1 _ ?_; clear hK1 K1
       (repeat (first | refine gO rfl ?_ | ((first | refine gM zM36 ?_ | (with_reducible refine wM ?_ ?_) | ((with_reducible refine xR ?_); refine uE 14 zM36 zPWE zPWP 142 rfl (by kernel_rfl) ?_) | ((with_reducible refine xS ?_); refine uD 16 zM36 zPXE zPXP 142 rfl (by kernel_rfl) ?_) | ((with_reducible refine xS ?_); refine uD 18 zM36 zPYE zPYP 142 rfl (by kernel_rfl) ?_) | ((with_reducible refine xS ?_); refine uD 21 zM36 zPZE zPZP 142 rfl (by kernel_rfl) ?_)) <;> ((try with_reducible intro K1 hK1); simp only [go_sem, ↓reduceIte, reduceCtorEq, nA, nB, nC, nD, nE, nF] <;> and_intros <;> first | (apply hK1; clear hK1 K1) | (intros; first | omega | decide | (simp_all <;> omega)) | skip))))
       refine awp_cond (t := _) rfl (fun h9 => by cases h9) (fun _ => ?_)
       have z1 := hS4.hi
       have z8 := hS4.tq
       have n1' := hS4.n1
       have hlq : (((out ++ [x.1]).length : Int) - 1).toNat = out.length := by simp
       have htq : ((out ++ [x.1]).map encS).take out.length = out.map encS := by rw [List.map_append, List.take_left' (by simp)]
       have hlm : ((out ++ [x.1]).map encS).length = (out ++ [x.1]).length := by simp
       have hlen9 : (out ++ [x.1]).length = out.length + 1 := by simp
       clear hS3 hkcA hsp2 hB3 hmo h7 he hd hd2 hno hz hw gs sw e3 y5 y6 hlo hao sl gx gl gw
       have HF4 := Lib.hid hF4
       have HOA := Lib.hid hothA
       clear hF4 hothA
       (repeat (first | refine gO rfl ?_ | ((first | refine gM zM36 ?_ | (with_reducible refine wM ?_ ?_) | ((with_reducible refine xR ?_); refine uE 14 zM36 zPWE zPWP 142 rfl (by kernel_rfl) ?_) | ((with_reducible refine xS ?_); refine uD 16 zM36 zPXE zPXP 142 rfl (by kernel_rfl) ?_) | ((with_reducible refine xS ?_); refine uD 18 zM36 zPYE zPYP 142 rfl (by kernel_rfl) ?_) | ((with_reducible refine xS ?_); refine uD 21 zM36 zPZE zPZP 142 rfl (by kernel_rfl) ?_)) <;> ((try with_reducible intro K1 hK1); simp only [go_sem, ↓reduceIte, reduceCtorEq, nA, nB, nC, nD, nE, nF, z1, z8, hlm, hlq, htq, Option.toList_none, Option.toList_some, List.append_eq, List.nil_append, List.cons_append, uside] <;> and_intros <;> first | (apply hK1; clear hK1 K1) | (intros; first | omega | decide) | skip))))
       intro q hq
       have hlive : ∀ k, h9.T k ≠ none → k ≠ q := fun k hk2 e => by
        rw [← e] at hq; exact hk2 hq
       have hql : kl ≠ q := hlive kl (by rw [hS4.tl]; simp)
       have hqc : kc ≠ q := hlive kc (by rw [hTc]; simp)
       have y5 : ∀ A, upd (upd h9.T ko3 none) q A kl = some (.cont 1 (L2.map encI)) := fun A => by rw [upd_other _ _ hql, upd_other _ _ n1'.2.1]; exact hS4.tl
       refine hK1 _ ?_; clear hK1 K1
       have hel : l - 1 + 1 = l := by omega
       (repeat (first | refine gO rfl ?_ | ((first | refine gM zM36 ?_ | (with_reducible refine wM ?_ ?_) | ((with_reducible refine xR ?_); refine uE 14 zM36 zPWE zPWP 142 rfl (by kernel_rfl) ?_) | ((with_reducible refine xS ?_); refine uD 16 zM36 zPXE zPXP 142 rfl (by kernel_rfl) ?_) | ((with_reducible refine xS ?_); refine uD 18 zM36 zPYE zPYP 142 rfl (by kernel_rfl) ?_) | ((with_reducible refine xS ?_); refine uD 21 zM36 zPZE zPZP 142 rfl (by kernel_rfl) ?_)) <;> ((try with_reducible intro K1 hK1); simp only [go_sem, ↓reduceIte, reduceCtorEq, nA, nB, nC, nD, nE, nF, Int.toNat_natCast, z1, upd_same, y5, gl2, sl2, hml2, hjl, hel, hrestL, upd_upd] <;> and_intros <;> first | (apply hK1; clear hK1 K1) | (intros; first | omega | decide) | skip))))
       refine ⟨g - 1, by omega, j + 1, kc, q, ks3, _, by omega, HW3, ⟨?_, ?_, ?_, ?_, ?_, ⟨m1, hql, hqc⟩, n2⟩, hK4, fun q0 a0 a1 a2 a3 => ?_, rfl⟩
       ·exact upd_same _ _ _
       ·show upd _ _ _ _ = _; rw [upd_other _ _ n2]; exact hS4.hm
       ·exact upd_same _ _ _
       ·show upd _ _ _ _ = _; rw [upd_other _ _ (Ne.symm m1), upd_other _ _ hqc, upd_other _ _ hkc4.2.2]; exact hTc
       ·show upd _ _ _ _ = _; rw [upd_other _ _ (Ne.symm hql), upd_same]
       ·obtain ⟨b1, b2, b3⟩ := hF2 q0 a0 a1 a2 a3
        have b4 : h2.T q0 ≠ none := by rw [b1]; exact a0
        have b5 := HOA.out q0 b4 a1 b2 b3
        have b6 : q0 ≠ kc := fun e9 => b4 (by rw [e9]; exact hkc)
        obtain ⟨d1, d2, d3⟩ := HF4.out q0 (fun e9 => b4 (b5.symm.trans e9)) a1 b2 b3
        have d4 : h9.T q0 = h2.T q0 := d1.trans b5
        have d5 : q0 ≠ q := hlive q0 (by rw [d4]; exact b4)
        refine ⟨?_, b6, d5⟩
        show upd _ _ _ _ = _
        rw [upd_other _ _ a1, upd_other _ _ d5, upd_other _ _ d3, d4, b1]
  ·simp only [decide_eq_false_iff_not] at h5
   have hjl : j = ws.length := by omega
   subst hjl
   rw [Nat.sub_self, fsome] at HW
   have q1 := hS2.hi
   have q2 := hS2.hm
   obtain ⟨ks3, q3, q4⟩ := mset_bools ks2 key
   have n2 := hS2.n2
   have hK3 : BadOk (apt ws) ws.length ks3 := fun q hq => by
    have hm := hmore ks2 hK2 HW.out
    rcases q4 q hq with rfl | h9
    ·exact hm q (by simp)
    ·exact hm q (by simp [h9])
   (repeat (first | refine gO rfl ?_ | ((first | refine gM zM36 ?_ | (with_reducible refine wM ?_ ?_) | ((with_reducible refine xR ?_); refine uE 14 zM36 zPWE zPWP 142 rfl (by kernel_rfl) ?_) | ((with_reducible refine xS ?_); refine uD 16 zM36 zPXE zPXP 142 rfl (by kernel_rfl) ?_) | ((with_reducible refine xS ?_); refine uD 18 zM36 zPYE zPYP 142 rfl (by kernel_rfl) ?_) | ((with_reducible refine xS ?_); refine uD 21 zM36 zPZE zPZP 142 rfl (by kernel_rfl) ?_)) <;> ((try with_reducible intro K1 hK1); simp only [go_sem, ↓reduceIte, reduceCtorEq, nA, nB, nC, nD, nE, nF, q1, q2, q3] <;> and_intros <;> first | (apply hK1; clear hK1 K1) | (intros; first | omega | decide | (simp_all <;> omega)) | skip))))
   simp only [Tryz.results92, go_sem, ↓reduceIte, reduceCtorEq, nA, nB, nC, nD, nE, nF]
   refine ⟨_, _, Weak.refl _, Hp.le.refl _, kw2, ko2, L, W, ks3, ?_⟩
   rw [HW.out]
   refine ⟨rfl, ⟨?_, upd_same _ _ _, hS2.tl, hS2.tw, hS2.tq, hS2.n1, n2⟩, hK3, hF2⟩
   show upd _ _ _ _ = _; rw [upd_other _ _ (Ne.symm n2)]; exact q1
abbrev zP10E : List Nat := [0, 1, 2, 3, 4, 5, 6, 7, 8, 9, 10, 11, 12, 13]
abbrev zP10P : List (Nat × List Nat × List Nat) := []
abbrev zP11E : List Nat := [0, 1, 2, 3, 4, 5, 6, 7, 8, 9, 10, 11, 12, 13]
abbrev zP11P : List (Nat × List Nat × List Nat) := []
attribute [go_sem] zP10E zP10P zP11E zP11P
def leS (a b : ByteArray) : Bool := Op.bytesLess a.toList b.toList || (a == b)
def wantL : Option ByteArray → Int → List Wn → Int
 | _, s, [] => if 12 < s then 2 else 0
 | p, s, w :: l => if keyB w.1 = true then (if (match p with | some q => leS w.1 q | none => false) = true then 7 else if (outB w.2.1 1 12 || outB w.2.2 0 12) = true then 1 else wantL (some w.1) (s + w.2.1) l) else 5
theorem wantL_cons (p : Option ByteArray) (s : Int) (w : Wn) (l : List Wn) : wantL p s (w :: l) = if keyB w.1 = true then (if (match p with | some q => leS w.1 q | none => false) = true then 7 else if (outB w.2.1 1 12 || outB w.2.2 0 12) = true then 1 else wantL (some w.1) (s + w.2.1) l) else 5 := by cases p <;> rfl
theorem wantL_nil (p : Option ByteArray) (s : Int) : wantL p s [] = if 12 < s then 2 else 0 := by cases p <;> rfl
def wantE (ws : List Wn) : Int := if 12 < ws.length then 2 else wantL none 0 ws
def prevW (ws : List Wn) (j : Nat) : Option ByteArray := if j = 0 then none else some (ws.getD (j - 1) default).1
theorem g_cntP (ws : List Wn) (h : Hp) (hs : ∀ x ∈ ws, WOk x) (hl : ws.length ≤ 1000) : ACalls Tryz.prog 37 [.row 3 (ws.map encW) none] h (fun r h' => r = .v (.int .i64 (wantE ws)) ∧ h' = h) := by
 refine gE Tryz.func37 rfl (by kernel_rfl) 50 rfl fun c => ?_
 (repeat (first | refine gO rfl ?_ | ((first | refine gM zM37 ?_ | (with_reducible refine wM ?_ ?_) | ((with_reducible refine xS ?_); refine uD 9 zM37 zP10E zP10P 51 rfl (by kernel_rfl) ?_)) <;> ((try with_reducible intro K1 hK1); simp only [go_sem, ↓reduceIte, reduceCtorEq, nA, nB, nC, nD, nE, nF, List.length_map] <;> and_intros <;> first | (apply hK1; clear hK1 K1) | (intros; first | omega | decide | (simp_all <;> omega)) | skip))))
 refine awp_cond (t := _) rfl (fun h1 => ?_) (fun h1 => ?_)
 ·simp only [decide_eq_true_eq] at h1
  (repeat (first | refine gO rfl ?_ | ((first | refine gM zM37 ?_ | (with_reducible refine wM ?_ ?_) | ((with_reducible refine xS ?_); refine uD 9 zM37 zP10E zP10P 51 rfl (by kernel_rfl) ?_)) <;> ((try with_reducible intro K1 hK1); simp only [go_sem, ↓reduceIte, reduceCtorEq, nA, nB, nC, nD, nE, nF] <;> and_intros <;> first | (apply hK1; clear hK1 K1) | (intros; first | omega | decide | (simp_all <;> omega)) | skip))))
  simp only [Tryz.results37, go_sem, ↓reduceIte, reduceCtorEq, nA, nB, nC, nD, nE, nF]
  exact ⟨_, _, Weak.refl _, Hp.le.refl _, by rw [wantE, if_pos (by omega)], rfl⟩
 simp only [decide_eq_false_iff_not] at h1
 have hwe : wantE ws = wantL none 0 ws := by rw [wantE, if_neg (by omega)]
 rw [hwe]
 clear hwe
 (repeat (first | refine gO rfl ?_ | ((first | refine gM zM37 ?_ | (with_reducible refine wM ?_ ?_) | ((with_reducible refine xS ?_); refine uD 9 zM37 zP10E zP10P 51 rfl (by kernel_rfl) ?_)) <;> ((try with_reducible intro K1 hK1); simp only [go_sem, ↓reduceIte, reduceCtorEq, nA, nB, nC, nD, nE, nF, List.length_map] <;> and_intros <;> first | (apply hK1; clear hK1 K1) | (intros; first | omega | decide | (simp_all <;> omega)) | skip))))
 refine awp_loopC (rl false [0, 1, 2, 1, 5, 3, 39]) 0 (fun g s => ∃ (j : Nat) (q : Int), g + j = ws.length ∧ (0 ≤ q ∧ q ≤ 12 * j) ∧ Go.RowKit.Hid (wantL none 0 ws = wantL (prevW ws j) q (ws.drop j)) ∧
  s = ⟨((.row 3 (ws.map encW) none) :: AV.junk :: AV.junk :: ((.v (.int .i64 q)) :: (jnk 5 ((.row 3 (ws.map encW) none) :: (.v (.int .i64 ws.length)) :: (.v (.int .i64 j)) :: (jnk 39 []))))), [], h⟩) ws.length ⟨0, 0, by omega, by omega, Lib.hid rfl, rfl⟩ ?_
 rintro g _ ⟨j, q, hj, hq, HW, rfl⟩
 (repeat (first | refine gO rfl ?_ | ((first | refine gM zM37 ?_ | (with_reducible refine wM ?_ ?_) | ((with_reducible refine xS ?_); refine uD 9 zM37 zP10E zP10P 51 rfl (by kernel_rfl) ?_)) <;> ((try with_reducible intro K1 hK1); simp only [go_sem, ↓reduceIte, reduceCtorEq, nA, nB, nC, nD, nE, nF] <;> and_intros <;> first | (apply hK1; clear hK1 K1) | (intros; first | omega | decide | (simp_all <;> omega)) | skip))))
 refine awp_cond (t := _) rfl (fun h2 => ?_) (fun h2 => ?_)
 ·simp only [decide_eq_true_eq] at h2
  have hjl : j < ws.length := by omega
  have gx : (ws.map encW).getD j [] = [.v (.string (ws.getD j default).1), .v (.int .i64 (ws.getD j default).2.1), .v (.int .i64 (ws.getD j default).2.2)] := getD_enc encW ws j default hjl
  have hwo := hs _ (show ws.getD j default ∈ ws by rw [List.getD_eq_getElem?_getD, List.getElem?_eq_getElem hjl]; exact List.getElem_mem hjl)
  have hdc := drop_at ws j default hjl
  have hpv : prevW ws (j + 1) = some (ws.getD j default).1 := by rw [prevW, if_neg (by omega)]; simp
  rw [hdc, wantL_cons] at HW
  clear hdc
  have hkx := fun h => a_isKey (ws.getD j default).1 (by have := hwo.1; omega) h
  generalize ws.getD j default = x at gx hwo hpv HW hkx
  (repeat (first | refine gO rfl ?_ | ((first | refine gM zM37 ?_ | (with_reducible refine wM ?_ ?_) | ((with_reducible refine xS ?_); refine uD 9 zM37 zP10E zP10P 51 rfl (by kernel_rfl) ?_)) <;> ((try with_reducible intro K1 hK1); simp only [go_sem, ↓reduceIte, reduceCtorEq, nA, nB, nC, nD, nE, nF, Int.toNat_natCast, gx] <;> and_intros <;> first | (apply hK1; clear hK1 K1) | (intros; first | omega | decide | (simp_all <;> omega)) | skip))))
  refine (hkx _).mono ?_; rintro _ hz ⟨rfl, hh⟩; apply hK1; clear hK1 K1; rw [hh]; clear hh hz
  generalize hkb : keyB x.1 = kb at HW
  clear hkx
  cases kb with
  | false =>
   (repeat (first | refine gO rfl ?_ | ((first | refine gM zM37 ?_ | (with_reducible refine wM ?_ ?_) | ((with_reducible refine xS ?_); refine uD 9 zM37 zP10E zP10P 51 rfl (by kernel_rfl) ?_)) <;> ((try with_reducible intro K1 hK1); simp only [go_sem, ↓reduceIte, reduceCtorEq, nA, nB, nC, nD, nE, nF] <;> and_intros <;> first | (apply hK1; clear hK1 K1) | (intros; first | omega | decide | (simp_all <;> omega)) | skip))))
   refine awp_cond (t := _) rfl (fun _ => ?_) (fun h9 => by cases h9)
   (repeat (first | refine gO rfl ?_ | ((first | refine gM zM37 ?_ | (with_reducible refine wM ?_ ?_) | ((with_reducible refine xS ?_); refine uD 9 zM37 zP10E zP10P 51 rfl (by kernel_rfl) ?_)) <;> ((try with_reducible intro K1 hK1); simp only [go_sem, ↓reduceIte, reduceCtorEq, nA, nB, nC, nD, nE, nF] <;> and_intros <;> first | (apply hK1; clear hK1 K1) | (intros; first | omega | decide | (simp_all <;> omega)) | skip))))
   simp only [Tryz.results37, go_sem, ↓reduceIte, reduceCtorEq, nA, nB, nC, nD, nE, nF]
   exact ⟨_, _, Weak.refl _, Hp.le.refl _, by rw [HW.out]; rfl, rfl⟩
  | true =>
   rw [if_pos rfl] at HW
   (repeat (first | refine gO rfl ?_ | ((first | refine gM zM37 ?_ | (with_reducible refine wM ?_ ?_) | ((with_reducible refine xS ?_); refine uD 9 zM37 zP10E zP10P 51 rfl (by kernel_rfl) ?_)) <;> ((try with_reducible intro K1 hK1); simp only [go_sem, ↓reduceIte, reduceCtorEq, nA, nB, nC, nD, nE, nF] <;> and_intros <;> first | (apply hK1; clear hK1 K1) | (intros; first | omega | decide | (simp_all <;> omega)) | skip))))
   refine awp_cond (t := _) rfl (fun h9 => by cases h9) (fun _ => ?_)
   generalize hpb : (match prevW ws j with | some q => leS x.1 q | none => false) = pb at HW
   by_cases hj0 : j = 0
   ·have hd0 : decide ((0 : Int) < (j : Int)) = false := by simp only [decide_eq_false_iff_not]; omega
    rw [prevW, if_pos hj0] at hpb
    simp only at hpb
    subst hpb
    have ht1 : ((j : Int) - 1).toNat = 0 := by omega
    have gp : (ws.map encW).getD 0 [] = [.v (.string (ws.getD 0 default).1), .v (.int .i64 (ws.getD 0 default).2.1), .v (.int .i64 (ws.getD 0 default).2.2)] := getD_enc encW ws 0 default (by omega)
    generalize ws.getD 0 default = y at gp
    (repeat (first | refine gO rfl ?_ | ((first | refine gM zM37 ?_ | (with_reducible refine wM ?_ ?_) | ((with_reducible refine xS ?_); refine uD 9 zM37 zP10E zP10P 51 rfl (by kernel_rfl) ?_)) <;> ((try with_reducible intro K1 hK1); simp only [go_sem, ↓reduceIte, reduceCtorEq, nA, nB, nC, nD, nE, nF, hd0, ht1, gp] <;> and_intros <;> first | (apply hK1; clear hK1 K1) | (intros; first | omega | decide | (simp_all <;> omega)) | skip))))
    refine awp_cond (t := _) rfl (fun h9 => by cases h9) (fun _ => ?_)
    have ho1 : ∀ h : Hp, ACalls Tryz.prog 91 [.v (.int .i64 x.2.1), .v (.int .i64 1), .v (.int .i64 12)] h (fun r h' => r = .v (.bool ((outB x.2.1 1 12))) ∧ h' = h) := fun h => a_outside x.2.1 1 12 h
    have ho2 : ∀ h : Hp, ACalls Tryz.prog 91 [.v (.int .i64 x.2.2), .v (.int .i64 0), .v (.int .i64 12)] h (fun r h' => r = .v (.bool ((outB x.2.2 0 12))) ∧ h' = h) := fun h => a_outside x.2.2 0 12 h
    generalize ha1 : outB x.2.1 1 12 = b1 at HW ho1
    generalize ha2 : outB x.2.2 0 12 = b2 at HW ho2
    (repeat (first | refine gO rfl ?_ | ((first | refine gM zM37 ?_ | (with_reducible refine wM ?_ ?_) | ((with_reducible refine xS ?_); refine uD 9 zM37 zP10E zP10P 51 rfl (by kernel_rfl) ?_)) <;> ((try with_reducible intro K1 hK1); simp only [go_sem, ↓reduceIte, reduceCtorEq, nA, nB, nC, nD, nE, nF] <;> and_intros <;> first | (apply hK1; clear hK1 K1) | (intros; first | omega | decide | (simp_all <;> omega)) | skip))))
    refine (ho1 _).mono ?_; rintro _ hz ⟨rfl, hh⟩; apply hK1; clear hK1 K1; rw [hh]; clear hh hz
    cases b1 with
    | true =>
     (repeat (first | refine gO rfl ?_ | ((first | refine gM zM37 ?_ | (with_reducible refine wM ?_ ?_) | ((with_reducible refine xS ?_); refine uD 9 zM37 zP10E zP10P 51 rfl (by kernel_rfl) ?_)) <;> ((try with_reducible intro K1 hK1); simp only [go_sem, ↓reduceIte, reduceCtorEq, nA, nB, nC, nD, nE, nF] <;> and_intros <;> first | (apply hK1; clear hK1 K1) | (intros; first | omega | decide | (simp_all <;> omega)) | skip))))
     refine awp_cond (t := _) rfl (fun _ => ?_) (fun h9 => by cases h9)
     (repeat (first | refine gO rfl ?_ | ((first | refine gM zM37 ?_ | (with_reducible refine wM ?_ ?_) | ((with_reducible refine xS ?_); refine uD 9 zM37 zP10E zP10P 51 rfl (by kernel_rfl) ?_)) <;> ((try with_reducible intro K1 hK1); simp only [go_sem, ↓reduceIte, reduceCtorEq, nA, nB, nC, nD, nE, nF] <;> and_intros <;> first | (apply hK1; clear hK1 K1) | (intros; first | omega | decide | (simp_all <;> omega)) | skip))))
     simp only [Tryz.results37, go_sem, ↓reduceIte, reduceCtorEq, nA, nB, nC, nD, nE, nF]
     exact ⟨_, _, Weak.refl _, Hp.le.refl _, by rw [HW.out]; rfl, rfl⟩
    | false =>
     (repeat (first | refine gO rfl ?_ | ((first | refine gM zM37 ?_ | (with_reducible refine wM ?_ ?_) | ((with_reducible refine xS ?_); refine uD 9 zM37 zP10E zP10P 51 rfl (by kernel_rfl) ?_)) <;> ((try with_reducible intro K1 hK1); simp only [go_sem, ↓reduceIte, reduceCtorEq, nA, nB, nC, nD, nE, nF] <;> and_intros <;> first | (apply hK1; clear hK1 K1) | (intros; first | omega | decide | (simp_all <;> omega)) | skip))))
     refine (ho2 _).mono ?_; rintro _ hz ⟨rfl, hh⟩; refine ⟨rfl, hK1 _ ?_⟩; clear hK1 K1; rw [hh]; clear hh hz
     cases b2 with
     | true =>
      (repeat (first | refine gO rfl ?_ | ((first | refine gM zM37 ?_ | (with_reducible refine wM ?_ ?_) | ((with_reducible refine xS ?_); refine uD 9 zM37 zP10E zP10P 51 rfl (by kernel_rfl) ?_)) <;> ((try with_reducible intro K1 hK1); simp only [go_sem, ↓reduceIte, reduceCtorEq, nA, nB, nC, nD, nE, nF] <;> and_intros <;> first | (apply hK1; clear hK1 K1) | (intros; first | omega | decide | (simp_all <;> omega)) | skip))))
      refine awp_cond (t := _) rfl (fun _ => ?_) (fun h9 => by cases h9)
      (repeat (first | refine gO rfl ?_ | ((first | refine gM zM37 ?_ | (with_reducible refine wM ?_ ?_) | ((with_reducible refine xS ?_); refine uD 9 zM37 zP10E zP10P 51 rfl (by kernel_rfl) ?_)) <;> ((try with_reducible intro K1 hK1); simp only [go_sem, ↓reduceIte, reduceCtorEq, nA, nB, nC, nD, nE, nF] <;> and_intros <;> first | (apply hK1; clear hK1 K1) | (intros; first | omega | decide | (simp_all <;> omega)) | skip))))
      simp only [Tryz.results37, go_sem, ↓reduceIte, reduceCtorEq, nA, nB, nC, nD, nE, nF]
      exact ⟨_, _, Weak.refl _, Hp.le.refl _, by rw [HW.out]; rfl, rfl⟩
     | false =>
      (repeat (first | refine gO rfl ?_ | ((first | refine gM zM37 ?_ | (with_reducible refine wM ?_ ?_) | ((with_reducible refine xS ?_); refine uD 9 zM37 zP10E zP10P 51 rfl (by kernel_rfl) ?_)) <;> ((try with_reducible intro K1 hK1); simp only [go_sem, ↓reduceIte, reduceCtorEq, nA, nB, nC, nD, nE, nF] <;> and_intros <;> first | (apply hK1; clear hK1 K1) | (intros; first | omega | decide | (simp_all <;> omega)) | skip))))
      refine awp_cond (t := _) rfl (fun h9 => by cases h9) (fun _ => ?_)
      simp only [outB, Bool.or_eq_false_iff, decide_eq_false_iff_not] at ha1
      (repeat (first | refine gO rfl ?_ | ((first | refine gM zM37 ?_ | (with_reducible refine wM ?_ ?_) | ((with_reducible refine xS ?_); refine uD 9 zM37 zP10E zP10P 51 rfl (by kernel_rfl) ?_)) <;> ((try with_reducible intro K1 hK1); simp only [go_sem, ↓reduceIte, reduceCtorEq, nA, nB, nC, nD, nE, nF] <;> and_intros <;> first | (apply hK1; clear hK1 K1) | (intros; first | omega | decide | (simp_all <;> omega)) | skip))))
      exact ⟨g - 1, by omega, j + 1, q + x.2.1, by omega, by omega, Lib.hid (by rw [HW.out, hpv]; rfl), rfl⟩
   ·have hd0 : decide ((0 : Int) < (j : Int)) = true := by simp only [decide_eq_true_eq]; omega
    rw [prevW, if_neg hj0] at hpb
    simp only at hpb
    have ht1 : ((j : Int) - 1).toNat = j - 1 := by omega
    have gp : (ws.map encW).getD (j - 1) [] = [.v (.string (ws.getD (j - 1) default).1), .v (.int .i64 (ws.getD (j - 1) default).2.1), .v (.int .i64 (ws.getD (j - 1) default).2.2)] := getD_enc encW ws (j - 1) default (by omega)
    generalize ws.getD (j - 1) default = y at gp hpb
    unfold leS at hpb
    (repeat (first | refine gO rfl ?_ | ((first | refine gM zM37 ?_ | (with_reducible refine wM ?_ ?_) | ((with_reducible refine xS ?_); refine uD 9 zM37 zP10E zP10P 51 rfl (by kernel_rfl) ?_)) <;> ((try with_reducible intro K1 hK1); simp only [go_sem, ↓reduceIte, reduceCtorEq, nA, nB, nC, nD, nE, nF, hd0, ht1, gp, hpb, List.length_map] <;> and_intros <;> first | (apply hK1; clear hK1 K1) | (intros; first | omega | decide | (simp_all <;> omega)) | skip))))
    cases pb with
    | true =>
     refine awp_cond (t := _) rfl (fun _ => ?_) (fun h9 => by cases h9)
     (repeat (first | refine gO rfl ?_ | ((first | refine gM zM37 ?_ | (with_reducible refine wM ?_ ?_) | ((with_reducible refine xS ?_); refine uD 9 zM37 zP10E zP10P 51 rfl (by kernel_rfl) ?_)) <;> ((try with_reducible intro K1 hK1); simp only [go_sem, ↓reduceIte, reduceCtorEq, nA, nB, nC, nD, nE, nF] <;> and_intros <;> first | (apply hK1; clear hK1 K1) | (intros; first | omega | decide | (simp_all <;> omega)) | skip))))
     simp only [Tryz.results37, go_sem, ↓reduceIte, reduceCtorEq, nA, nB, nC, nD, nE, nF]
     exact ⟨_, _, Weak.refl _, Hp.le.refl _, by rw [HW.out, if_pos rfl], rfl⟩
    | false =>
     refine awp_cond (t := _) rfl (fun h9 => by cases h9) (fun _ => ?_)
     have ho1 : ∀ h : Hp, ACalls Tryz.prog 91 [.v (.int .i64 x.2.1), .v (.int .i64 1), .v (.int .i64 12)] h (fun r h' => r = .v (.bool ((outB x.2.1 1 12))) ∧ h' = h) := fun h => a_outside x.2.1 1 12 h
     have ho2 : ∀ h : Hp, ACalls Tryz.prog 91 [.v (.int .i64 x.2.2), .v (.int .i64 0), .v (.int .i64 12)] h (fun r h' => r = .v (.bool ((outB x.2.2 0 12))) ∧ h' = h) := fun h => a_outside x.2.2 0 12 h
     generalize ha1 : outB x.2.1 1 12 = b1 at HW ho1
     generalize ha2 : outB x.2.2 0 12 = b2 at HW ho2
     (repeat (first | refine gO rfl ?_ | ((first | refine gM zM37 ?_ | (with_reducible refine wM ?_ ?_) | ((with_reducible refine xS ?_); refine uD 9 zM37 zP10E zP10P 51 rfl (by kernel_rfl) ?_)) <;> ((try with_reducible intro K1 hK1); simp only [go_sem, ↓reduceIte, reduceCtorEq, nA, nB, nC, nD, nE, nF] <;> and_intros <;> first | (apply hK1; clear hK1 K1) | (intros; first | omega | decide | (simp_all <;> omega)) | skip))))
     refine (ho1 _).mono ?_; rintro _ hz ⟨rfl, hh⟩; apply hK1; clear hK1 K1; rw [hh]; clear hh hz
     cases b1 with
     | true =>
      (repeat (first | refine gO rfl ?_ | ((first | refine gM zM37 ?_ | (with_reducible refine wM ?_ ?_) | ((with_reducible refine xS ?_); refine uD 9 zM37 zP10E zP10P 51 rfl (by kernel_rfl) ?_)) <;> ((try with_reducible intro K1 hK1); simp only [go_sem, ↓reduceIte, reduceCtorEq, nA, nB, nC, nD, nE, nF] <;> and_intros <;> first | (apply hK1; clear hK1 K1) | (intros; first | omega | decide | (simp_all <;> omega)) | skip))))
      refine awp_cond (t := _) rfl (fun _ => ?_) (fun h9 => by cases h9)
      (repeat (first | refine gO rfl ?_ | ((first | refine gM zM37 ?_ | (with_reducible refine wM ?_ ?_) | ((with_reducible refine xS ?_); refine uD 9 zM37 zP10E zP10P 51 rfl (by kernel_rfl) ?_)) <;> ((try with_reducible intro K1 hK1); simp only [go_sem, ↓reduceIte, reduceCtorEq, nA, nB, nC, nD, nE, nF] <;> and_intros <;> first | (apply hK1; clear hK1 K1) | (intros; first | omega | decide | (simp_all <;> omega)) | skip))))
      simp only [Tryz.results37, go_sem, ↓reduceIte, reduceCtorEq, nA, nB, nC, nD, nE, nF]
      exact ⟨_, _, Weak.refl _, Hp.le.refl _, by rw [HW.out]; rfl, rfl⟩
     | false =>
      (repeat (first | refine gO rfl ?_ | ((first | refine gM zM37 ?_ | (with_reducible refine wM ?_ ?_) | ((with_reducible refine xS ?_); refine uD 9 zM37 zP10E zP10P 51 rfl (by kernel_rfl) ?_)) <;> ((try with_reducible intro K1 hK1); simp only [go_sem, ↓reduceIte, reduceCtorEq, nA, nB, nC, nD, nE, nF] <;> and_intros <;> first | (apply hK1; clear hK1 K1) | (intros; first | omega | decide | (simp_all <;> omega)) | skip))))
      refine (ho2 _).mono ?_; rintro _ hz ⟨rfl, hh⟩; refine ⟨rfl, hK1 _ ?_⟩; clear hK1 K1; rw [hh]; clear hh hz
      cases b2 with
      | true =>
       (repeat (first | refine gO rfl ?_ | ((first | refine gM zM37 ?_ | (with_reducible refine wM ?_ ?_) | ((with_reducible refine xS ?_); refine uD 9 zM37 zP10E zP10P 51 rfl (by kernel_rfl) ?_)) <;> ((try with_reducible intro K1 hK1); simp only [go_sem, ↓reduceIte, reduceCtorEq, nA, nB, nC, nD, nE, nF] <;> and_intros <;> first | (apply hK1; clear hK1 K1) | (intros; first | omega | decide | (simp_all <;> omega)) | skip))))
       refine awp_cond (t := _) rfl (fun _ => ?_) (fun h9 => by cases h9)
       (repeat (first | refine gO rfl ?_ | ((first | refine gM zM37 ?_ | (with_reducible refine wM ?_ ?_) | ((with_reducible refine xS ?_); refine uD 9 zM37 zP10E zP10P 51 rfl (by kernel_rfl) ?_)) <;> ((try with_reducible intro K1 hK1); simp only [go_sem, ↓reduceIte, reduceCtorEq, nA, nB, nC, nD, nE, nF] <;> and_intros <;> first | (apply hK1; clear hK1 K1) | (intros; first | omega | decide | (simp_all <;> omega)) | skip))))
       simp only [Tryz.results37, go_sem, ↓reduceIte, reduceCtorEq, nA, nB, nC, nD, nE, nF]
       exact ⟨_, _, Weak.refl _, Hp.le.refl _, by rw [HW.out]; rfl, rfl⟩
      | false =>
       (repeat (first | refine gO rfl ?_ | ((first | refine gM zM37 ?_ | (with_reducible refine wM ?_ ?_) | ((with_reducible refine xS ?_); refine uD 9 zM37 zP10E zP10P 51 rfl (by kernel_rfl) ?_)) <;> ((try with_reducible intro K1 hK1); simp only [go_sem, ↓reduceIte, reduceCtorEq, nA, nB, nC, nD, nE, nF] <;> and_intros <;> first | (apply hK1; clear hK1 K1) | (intros; first | omega | decide | (simp_all <;> omega)) | skip))))
       refine awp_cond (t := _) rfl (fun h9 => by cases h9) (fun _ => ?_)
       simp only [outB, Bool.or_eq_false_iff, decide_eq_false_iff_not] at ha1
       (repeat (first | refine gO rfl ?_ | ((first | refine gM zM37 ?_ | (with_reducible refine wM ?_ ?_) | ((with_reducible refine xS ?_); refine uD 9 zM37 zP10E zP10P 51 rfl (by kernel_rfl) ?_)) <;> ((try with_reducible intro K1 hK1); simp only [go_sem, ↓reduceIte, reduceCtorEq, nA, nB, nC, nD, nE, nF] <;> and_intros <;> first | (apply hK1; clear hK1 K1) | (intros; first | omega | decide | (simp_all <;> omega)) | skip))))
       exact ⟨g - 1, by omega, j + 1, q + x.2.1, by omega, by omega, Lib.hid (by rw [HW.out, hpv]; rfl), rfl⟩
 ·simp only [decide_eq_false_iff_not] at h2
  have hjl : j = ws.length := by omega
  subst hjl
  rw [List.drop_length, wantL_nil] at HW
  (repeat (first | refine gO rfl ?_ | ((first | refine gM zM37 ?_ | (with_reducible refine wM ?_ ?_) | ((with_reducible refine xS ?_); refine uD 9 zM37 zP10E zP10P 51 rfl (by kernel_rfl) ?_)) <;> ((try with_reducible intro K1 hK1); simp only [go_sem, ↓reduceIte, reduceCtorEq, nA, nB, nC, nD, nE, nF] <;> and_intros <;> first | (apply hK1; clear hK1 K1) | (intros; first | omega | decide | (simp_all <;> omega)) | skip))))
  refine awp_cond (t := _) rfl (fun h3 => ?_) (fun h3 => ?_)
  ·simp only [decide_eq_true_eq] at h3
   (repeat (first | refine gO rfl ?_ | ((first | refine gM zM37 ?_ | (with_reducible refine wM ?_ ?_) | ((with_reducible refine xS ?_); refine uD 9 zM37 zP10E zP10P 51 rfl (by kernel_rfl) ?_)) <;> ((try with_reducible intro K1 hK1); simp only [go_sem, ↓reduceIte, reduceCtorEq, nA, nB, nC, nD, nE, nF] <;> and_intros <;> first | (apply hK1; clear hK1 K1) | (intros; first | omega | decide | (simp_all <;> omega)) | skip))))
   simp only [Tryz.results37, go_sem, ↓reduceIte, reduceCtorEq, nA, nB, nC, nD, nE, nF]
   exact ⟨_, _, Weak.refl _, Hp.le.refl _, by rw [HW.out, if_pos h3], rfl⟩
  ·simp only [decide_eq_false_iff_not] at h3
   (repeat (first | refine gO rfl ?_ | ((first | refine gM zM37 ?_ | (with_reducible refine wM ?_ ?_) | ((with_reducible refine xS ?_); refine uD 9 zM37 zP10E zP10P 51 rfl (by kernel_rfl) ?_)) <;> ((try with_reducible intro K1 hK1); simp only [go_sem, ↓reduceIte, reduceCtorEq, nA, nB, nC, nD, nE, nF] <;> and_intros <;> first | (apply hK1; clear hK1 K1) | (intros; first | omega | decide | (simp_all <;> omega)) | skip))))
   simp only [Tryz.results37, go_sem, ↓reduceIte, reduceCtorEq, nA, nB, nC, nD, nE, nF]
   exact ⟨_, _, Weak.refl _, Hp.le.refl _, by rw [HW.out, if_neg h3], rfl⟩
theorem g_cntR (ws : List Wn) (h : Hp) (hs : ∀ x ∈ ws, WOk x) (hl : ws.length ≤ 1000) : ACalls Tryz.prog 36 [.row 3 (ws.map encW) none] h (fun r h' => r = .v (.int .i64 (wantE ws)) ∧ h' = h) := by
 refine gE Tryz.func36 rfl (by kernel_rfl) 52 rfl fun c => ?_
 (repeat (first | refine gO rfl ?_ | ((first | refine gM zM37 ?_ | (with_reducible refine wM ?_ ?_) | ((with_reducible refine xS ?_); refine uD 9 zM37 zP11E zP11P 53 rfl (by kernel_rfl) ?_)) <;> ((try with_reducible intro K1 hK1); simp only [go_sem, ↓reduceIte, reduceCtorEq, nA, nB, nC, nD, nE, nF, List.length_map] <;> and_intros <;> first | (apply hK1; clear hK1 K1) | (intros; first | omega | decide | (simp_all <;> omega)) | skip))))
 refine awp_cond (t := _) rfl (fun h1 => ?_) (fun h1 => ?_)
 ·simp only [decide_eq_true_eq] at h1
  (repeat (first | refine gO rfl ?_ | ((first | refine gM zM37 ?_ | (with_reducible refine wM ?_ ?_) | ((with_reducible refine xS ?_); refine uD 9 zM37 zP11E zP11P 53 rfl (by kernel_rfl) ?_)) <;> ((try with_reducible intro K1 hK1); simp only [go_sem, ↓reduceIte, reduceCtorEq, nA, nB, nC, nD, nE, nF] <;> and_intros <;> first | (apply hK1; clear hK1 K1) | (intros; first | omega | decide | (simp_all <;> omega)) | skip))))
  simp only [Tryz.results36, go_sem, ↓reduceIte, reduceCtorEq, nA, nB, nC, nD, nE, nF]
  exact ⟨_, _, Weak.refl _, Hp.le.refl _, by rw [wantE, if_pos (by omega)], rfl⟩
 simp only [decide_eq_false_iff_not] at h1
 have hwe : wantE ws = wantL none 0 ws := by rw [wantE, if_neg (by omega)]
 rw [hwe]
 clear hwe
 (repeat (first | refine gO rfl ?_ | ((first | refine gM zM37 ?_ | (with_reducible refine wM ?_ ?_) | ((with_reducible refine xS ?_); refine uD 9 zM37 zP11E zP11P 53 rfl (by kernel_rfl) ?_)) <;> ((try with_reducible intro K1 hK1); simp only [go_sem, ↓reduceIte, reduceCtorEq, nA, nB, nC, nD, nE, nF, List.length_map] <;> and_intros <;> first | (apply hK1; clear hK1 K1) | (intros; first | omega | decide | (simp_all <;> omega)) | skip))))
 refine awp_loopC (rl false [0, 1, 2, 1, 5, 3, 41]) 0 (fun g s => ∃ (j : Nat) (q : Int), g + j = ws.length ∧ (0 ≤ q ∧ q ≤ 12 * j) ∧ Go.RowKit.Hid (wantL none 0 ws = wantL (prevW ws j) q (ws.drop j)) ∧
  s = ⟨((.row 3 (ws.map encW) none) :: AV.junk :: AV.junk :: ((.v (.int .i64 q)) :: (jnk 5 ((.row 3 (ws.map encW) none) :: (.v (.int .i64 ws.length)) :: (.v (.int .i64 j)) :: (jnk 41 []))))), [], h⟩) ws.length ⟨0, 0, by omega, by omega, Lib.hid rfl, rfl⟩ ?_
 rintro g _ ⟨j, q, hj, hq, HW, rfl⟩
 (repeat (first | refine gO rfl ?_ | ((first | refine gM zM37 ?_ | (with_reducible refine wM ?_ ?_) | ((with_reducible refine xS ?_); refine uD 9 zM37 zP11E zP11P 53 rfl (by kernel_rfl) ?_)) <;> ((try with_reducible intro K1 hK1); simp only [go_sem, ↓reduceIte, reduceCtorEq, nA, nB, nC, nD, nE, nF] <;> and_intros <;> first | (apply hK1; clear hK1 K1) | (intros; first | omega | decide | (simp_all <;> omega)) | skip))))
 refine awp_cond (t := _) rfl (fun h2 => ?_) (fun h2 => ?_)
 ·simp only [decide_eq_true_eq] at h2
  have hjl : j < ws.length := by omega
  have gx : (ws.map encW).getD j [] = [.v (.string (ws.getD j default).1), .v (.int .i64 (ws.getD j default).2.1), .v (.int .i64 (ws.getD j default).2.2)] := getD_enc encW ws j default hjl
  have hwo := hs _ (show ws.getD j default ∈ ws by rw [List.getD_eq_getElem?_getD, List.getElem?_eq_getElem hjl]; exact List.getElem_mem hjl)
  have hdc := drop_at ws j default hjl
  have hpv : prevW ws (j + 1) = some (ws.getD j default).1 := by rw [prevW, if_neg (by omega)]; simp
  rw [hdc, wantL_cons] at HW
  clear hdc
  have hkx := fun h => a_key (ws.getD j default).1 (by have := hwo.1; omega) h
  generalize ws.getD j default = x at gx hwo hpv HW hkx
  (repeat (first | refine gO rfl ?_ | ((first | refine gM zM37 ?_ | (with_reducible refine wM ?_ ?_) | ((with_reducible refine xS ?_); refine uD 9 zM37 zP11E zP11P 53 rfl (by kernel_rfl) ?_)) <;> ((try with_reducible intro K1 hK1); simp only [go_sem, ↓reduceIte, reduceCtorEq, nA, nB, nC, nD, nE, nF, Int.toNat_natCast, gx] <;> and_intros <;> first | (apply hK1; clear hK1 K1) | (intros; first | omega | decide | (simp_all <;> omega)) | skip))))
  refine (hkx _).mono ?_; rintro _ hz ⟨rfl, hh⟩; apply hK1; clear hK1 K1; rw [hh]; clear hh hz
  generalize hkb : keyB x.1 = kb at HW
  clear hkx
  cases kb with
  | false =>
   (repeat (first | refine gO rfl ?_ | ((first | refine gM zM37 ?_ | (with_reducible refine wM ?_ ?_) | ((with_reducible refine xS ?_); refine uD 9 zM37 zP11E zP11P 53 rfl (by kernel_rfl) ?_)) <;> ((try with_reducible intro K1 hK1); simp only [go_sem, ↓reduceIte, reduceCtorEq, nA, nB, nC, nD, nE, nF] <;> and_intros <;> first | (apply hK1; clear hK1 K1) | (intros; first | omega | decide | (simp_all <;> omega)) | skip))))
   refine awp_cond (t := _) rfl (fun _ => ?_) (fun h9 => by cases h9)
   (repeat (first | refine gO rfl ?_ | ((first | refine gM zM37 ?_ | (with_reducible refine wM ?_ ?_) | ((with_reducible refine xS ?_); refine uD 9 zM37 zP11E zP11P 53 rfl (by kernel_rfl) ?_)) <;> ((try with_reducible intro K1 hK1); simp only [go_sem, ↓reduceIte, reduceCtorEq, nA, nB, nC, nD, nE, nF] <;> and_intros <;> first | (apply hK1; clear hK1 K1) | (intros; first | omega | decide | (simp_all <;> omega)) | skip))))
   simp only [Tryz.results36, go_sem, ↓reduceIte, reduceCtorEq, nA, nB, nC, nD, nE, nF]
   exact ⟨_, _, Weak.refl _, Hp.le.refl _, by rw [HW.out]; rfl, rfl⟩
  | true =>
   rw [if_pos rfl] at HW
   (repeat (first | refine gO rfl ?_ | ((first | refine gM zM37 ?_ | (with_reducible refine wM ?_ ?_) | ((with_reducible refine xS ?_); refine uD 9 zM37 zP11E zP11P 53 rfl (by kernel_rfl) ?_)) <;> ((try with_reducible intro K1 hK1); simp only [go_sem, ↓reduceIte, reduceCtorEq, nA, nB, nC, nD, nE, nF] <;> and_intros <;> first | (apply hK1; clear hK1 K1) | (intros; first | omega | decide | (simp_all <;> omega)) | skip))))
   refine awp_cond (t := _) rfl (fun h9 => by cases h9) (fun _ => ?_)
   generalize hpb : (match prevW ws j with | some q => leS x.1 q | none => false) = pb at HW
   by_cases hj0 : j = 0
   ·have hd0 : decide ((0 : Int) < (j : Int)) = false := by simp only [decide_eq_false_iff_not]; omega
    rw [prevW, if_pos hj0] at hpb
    simp only at hpb
    subst hpb
    have ht1 : ((j : Int) - 1).toNat = 0 := by omega
    have gp : (ws.map encW).getD 0 [] = [.v (.string (ws.getD 0 default).1), .v (.int .i64 (ws.getD 0 default).2.1), .v (.int .i64 (ws.getD 0 default).2.2)] := getD_enc encW ws 0 default (by omega)
    generalize ws.getD 0 default = y at gp
    (repeat (first | refine gO rfl ?_ | ((first | refine gM zM37 ?_ | (with_reducible refine wM ?_ ?_) | ((with_reducible refine xS ?_); refine uD 9 zM37 zP11E zP11P 53 rfl (by kernel_rfl) ?_)) <;> ((try with_reducible intro K1 hK1); simp only [go_sem, ↓reduceIte, reduceCtorEq, nA, nB, nC, nD, nE, nF, hd0, ht1, gp] <;> and_intros <;> first | (apply hK1; clear hK1 K1) | (intros; first | omega | decide | (simp_all <;> omega)) | skip))))
    refine awp_cond (t := _) rfl (fun h9 => by cases h9) (fun _ => ?_)
    have ho1 : ∀ h : Hp, ACalls Tryz.prog 87 [.v (.int .i64 x.2.1), .v (.int .i64 1), .v (.int .i64 12)] h (fun r h' => r = .v (.bool (!(outB x.2.1 1 12))) ∧ h' = h) := fun h => a_in2 x.2.1 1 12 h
    have ho2 : ∀ h : Hp, ACalls Tryz.prog 87 [.v (.int .i64 x.2.2), .v (.int .i64 0), .v (.int .i64 12)] h (fun r h' => r = .v (.bool (!(outB x.2.2 0 12))) ∧ h' = h) := fun h => a_in2 x.2.2 0 12 h
    generalize ha1 : outB x.2.1 1 12 = b1 at HW ho1
    generalize ha2 : outB x.2.2 0 12 = b2 at HW ho2
    (repeat (first | refine gO rfl ?_ | ((first | refine gM zM37 ?_ | (with_reducible refine wM ?_ ?_) | ((with_reducible refine xS ?_); refine uD 9 zM37 zP11E zP11P 53 rfl (by kernel_rfl) ?_)) <;> ((try with_reducible intro K1 hK1); simp only [go_sem, ↓reduceIte, reduceCtorEq, nA, nB, nC, nD, nE, nF] <;> and_intros <;> first | (apply hK1; clear hK1 K1) | (intros; first | omega | decide | (simp_all <;> omega)) | skip))))
    refine (ho1 _).mono ?_; rintro _ hz ⟨rfl, hh⟩; apply hK1; clear hK1 K1; rw [hh]; clear hh hz
    cases b1 with
    | true =>
     (repeat (first | refine gO rfl ?_ | ((first | refine gM zM37 ?_ | (with_reducible refine wM ?_ ?_) | ((with_reducible refine xS ?_); refine uD 9 zM37 zP11E zP11P 53 rfl (by kernel_rfl) ?_)) <;> ((try with_reducible intro K1 hK1); simp only [go_sem, ↓reduceIte, reduceCtorEq, nA, nB, nC, nD, nE, nF] <;> and_intros <;> first | (apply hK1; clear hK1 K1) | (intros; first | omega | decide | (simp_all <;> omega)) | skip))))
     refine ⟨.v (.bool false), rfl, True.intro, hK1 _ ?_⟩; clear hK1 K1
     (repeat (first | refine gO rfl ?_ | ((first | refine gM zM37 ?_ | (with_reducible refine wM ?_ ?_) | ((with_reducible refine xS ?_); refine uD 9 zM37 zP11E zP11P 53 rfl (by kernel_rfl) ?_)) <;> ((try with_reducible intro K1 hK1); simp only [go_sem, ↓reduceIte, reduceCtorEq, nA, nB, nC, nD, nE, nF] <;> and_intros <;> first | (apply hK1; clear hK1 K1) | (intros; first | omega | decide | (simp_all <;> omega)) | skip))))
     refine awp_cond (t := _) rfl (fun _ => ?_) (fun h9 => by cases h9)
     (repeat (first | refine gO rfl ?_ | ((first | refine gM zM37 ?_ | (with_reducible refine wM ?_ ?_) | ((with_reducible refine xS ?_); refine uD 9 zM37 zP11E zP11P 53 rfl (by kernel_rfl) ?_)) <;> ((try with_reducible intro K1 hK1); simp only [go_sem, ↓reduceIte, reduceCtorEq, nA, nB, nC, nD, nE, nF] <;> and_intros <;> first | (apply hK1; clear hK1 K1) | (intros; first | omega | decide | (simp_all <;> omega)) | skip))))
     simp only [Tryz.results36, go_sem, ↓reduceIte, reduceCtorEq, nA, nB, nC, nD, nE, nF]
     exact ⟨_, _, Weak.refl _, Hp.le.refl _, by rw [HW.out]; rfl, rfl⟩
    | false =>
     (repeat (first | refine gO rfl ?_ | ((first | refine gM zM37 ?_ | (with_reducible refine wM ?_ ?_) | ((with_reducible refine xS ?_); refine uD 9 zM37 zP11E zP11P 53 rfl (by kernel_rfl) ?_)) <;> ((try with_reducible intro K1 hK1); simp only [go_sem, ↓reduceIte, reduceCtorEq, nA, nB, nC, nD, nE, nF] <;> and_intros <;> first | (apply hK1; clear hK1 K1) | (intros; first | omega | decide | (simp_all <;> omega)) | skip))))
     refine (ho2 _).mono ?_; rintro _ hz ⟨rfl, hh⟩; refine ⟨rfl, hK1 _ ?_⟩; clear hK1 K1; rw [hh]; clear hh hz
     cases b2 with
     | true =>
      (repeat (first | refine gO rfl ?_ | ((first | refine gM zM37 ?_ | (with_reducible refine wM ?_ ?_) | ((with_reducible refine xS ?_); refine uD 9 zM37 zP11E zP11P 53 rfl (by kernel_rfl) ?_)) <;> ((try with_reducible intro K1 hK1); simp only [go_sem, ↓reduceIte, reduceCtorEq, nA, nB, nC, nD, nE, nF] <;> and_intros <;> first | (apply hK1; clear hK1 K1) | (intros; first | omega | decide | (simp_all <;> omega)) | skip))))
      refine awp_cond (t := _) rfl (fun _ => ?_) (fun h9 => by cases h9)
      (repeat (first | refine gO rfl ?_ | ((first | refine gM zM37 ?_ | (with_reducible refine wM ?_ ?_) | ((with_reducible refine xS ?_); refine uD 9 zM37 zP11E zP11P 53 rfl (by kernel_rfl) ?_)) <;> ((try with_reducible intro K1 hK1); simp only [go_sem, ↓reduceIte, reduceCtorEq, nA, nB, nC, nD, nE, nF] <;> and_intros <;> first | (apply hK1; clear hK1 K1) | (intros; first | omega | decide | (simp_all <;> omega)) | skip))))
      simp only [Tryz.results36, go_sem, ↓reduceIte, reduceCtorEq, nA, nB, nC, nD, nE, nF]
      exact ⟨_, _, Weak.refl _, Hp.le.refl _, by rw [HW.out]; rfl, rfl⟩
     | false =>
      (repeat (first | refine gO rfl ?_ | ((first | refine gM zM37 ?_ | (with_reducible refine wM ?_ ?_) | ((with_reducible refine xS ?_); refine uD 9 zM37 zP11E zP11P 53 rfl (by kernel_rfl) ?_)) <;> ((try with_reducible intro K1 hK1); simp only [go_sem, ↓reduceIte, reduceCtorEq, nA, nB, nC, nD, nE, nF] <;> and_intros <;> first | (apply hK1; clear hK1 K1) | (intros; first | omega | decide | (simp_all <;> omega)) | skip))))
      refine awp_cond (t := _) rfl (fun h9 => by cases h9) (fun _ => ?_)
      simp only [outB, Bool.or_eq_false_iff, decide_eq_false_iff_not] at ha1
      (repeat (first | refine gO rfl ?_ | ((first | refine gM zM37 ?_ | (with_reducible refine wM ?_ ?_) | ((with_reducible refine xS ?_); refine uD 9 zM37 zP11E zP11P 53 rfl (by kernel_rfl) ?_)) <;> ((try with_reducible intro K1 hK1); simp only [go_sem, ↓reduceIte, reduceCtorEq, nA, nB, nC, nD, nE, nF] <;> and_intros <;> first | (apply hK1; clear hK1 K1) | (intros; first | omega | decide | (simp_all <;> omega)) | skip))))
      exact ⟨g - 1, by omega, j + 1, q + x.2.1, by omega, by omega, Lib.hid (by rw [HW.out, hpv]; rfl), rfl⟩
   ·have hd0 : decide ((0 : Int) < (j : Int)) = true := by simp only [decide_eq_true_eq]; omega
    rw [prevW, if_neg hj0] at hpb
    simp only at hpb
    have ht1 : ((j : Int) - 1).toNat = j - 1 := by omega
    have gp : (ws.map encW).getD (j - 1) [] = [.v (.string (ws.getD (j - 1) default).1), .v (.int .i64 (ws.getD (j - 1) default).2.1), .v (.int .i64 (ws.getD (j - 1) default).2.2)] := getD_enc encW ws (j - 1) default (by omega)
    generalize ws.getD (j - 1) default = y at gp hpb
    unfold leS at hpb
    (repeat (first | refine gO rfl ?_ | ((first | refine gM zM37 ?_ | (with_reducible refine wM ?_ ?_) | ((with_reducible refine xS ?_); refine uD 9 zM37 zP11E zP11P 53 rfl (by kernel_rfl) ?_)) <;> ((try with_reducible intro K1 hK1); simp only [go_sem, ↓reduceIte, reduceCtorEq, nA, nB, nC, nD, nE, nF, hd0, ht1, gp, hpb, List.length_map] <;> and_intros <;> first | (apply hK1; clear hK1 K1) | (intros; first | omega | decide | (simp_all <;> omega)) | skip))))
    cases pb with
    | true =>
     refine awp_cond (t := _) rfl (fun _ => ?_) (fun h9 => by cases h9)
     (repeat (first | refine gO rfl ?_ | ((first | refine gM zM37 ?_ | (with_reducible refine wM ?_ ?_) | ((with_reducible refine xS ?_); refine uD 9 zM37 zP11E zP11P 53 rfl (by kernel_rfl) ?_)) <;> ((try with_reducible intro K1 hK1); simp only [go_sem, ↓reduceIte, reduceCtorEq, nA, nB, nC, nD, nE, nF] <;> and_intros <;> first | (apply hK1; clear hK1 K1) | (intros; first | omega | decide | (simp_all <;> omega)) | skip))))
     simp only [Tryz.results36, go_sem, ↓reduceIte, reduceCtorEq, nA, nB, nC, nD, nE, nF]
     exact ⟨_, _, Weak.refl _, Hp.le.refl _, by rw [HW.out, if_pos rfl], rfl⟩
    | false =>
     refine awp_cond (t := _) rfl (fun h9 => by cases h9) (fun _ => ?_)
     have ho1 : ∀ h : Hp, ACalls Tryz.prog 87 [.v (.int .i64 x.2.1), .v (.int .i64 1), .v (.int .i64 12)] h (fun r h' => r = .v (.bool (!(outB x.2.1 1 12))) ∧ h' = h) := fun h => a_in2 x.2.1 1 12 h
     have ho2 : ∀ h : Hp, ACalls Tryz.prog 87 [.v (.int .i64 x.2.2), .v (.int .i64 0), .v (.int .i64 12)] h (fun r h' => r = .v (.bool (!(outB x.2.2 0 12))) ∧ h' = h) := fun h => a_in2 x.2.2 0 12 h
     generalize ha1 : outB x.2.1 1 12 = b1 at HW ho1
     generalize ha2 : outB x.2.2 0 12 = b2 at HW ho2
     (repeat (first | refine gO rfl ?_ | ((first | refine gM zM37 ?_ | (with_reducible refine wM ?_ ?_) | ((with_reducible refine xS ?_); refine uD 9 zM37 zP11E zP11P 53 rfl (by kernel_rfl) ?_)) <;> ((try with_reducible intro K1 hK1); simp only [go_sem, ↓reduceIte, reduceCtorEq, nA, nB, nC, nD, nE, nF] <;> and_intros <;> first | (apply hK1; clear hK1 K1) | (intros; first | omega | decide | (simp_all <;> omega)) | skip))))
     refine (ho1 _).mono ?_; rintro _ hz ⟨rfl, hh⟩; apply hK1; clear hK1 K1; rw [hh]; clear hh hz
     cases b1 with
     | true =>
      (repeat (first | refine gO rfl ?_ | ((first | refine gM zM37 ?_ | (with_reducible refine wM ?_ ?_) | ((with_reducible refine xS ?_); refine uD 9 zM37 zP11E zP11P 53 rfl (by kernel_rfl) ?_)) <;> ((try with_reducible intro K1 hK1); simp only [go_sem, ↓reduceIte, reduceCtorEq, nA, nB, nC, nD, nE, nF] <;> and_intros <;> first | (apply hK1; clear hK1 K1) | (intros; first | omega | decide | (simp_all <;> omega)) | skip))))
      refine ⟨.v (.bool false), rfl, True.intro, hK1 _ ?_⟩; clear hK1 K1
      (repeat (first | refine gO rfl ?_ | ((first | refine gM zM37 ?_ | (with_reducible refine wM ?_ ?_) | ((with_reducible refine xS ?_); refine uD 9 zM37 zP11E zP11P 53 rfl (by kernel_rfl) ?_)) <;> ((try with_reducible intro K1 hK1); simp only [go_sem, ↓reduceIte, reduceCtorEq, nA, nB, nC, nD, nE, nF] <;> and_intros <;> first | (apply hK1; clear hK1 K1) | (intros; first | omega | decide | (simp_all <;> omega)) | skip))))
      refine awp_cond (t := _) rfl (fun _ => ?_) (fun h9 => by cases h9)
      (repeat (first | refine gO rfl ?_ | ((first | refine gM zM37 ?_ | (with_reducible refine wM ?_ ?_) | ((with_reducible refine xS ?_); refine uD 9 zM37 zP11E zP11P 53 rfl (by kernel_rfl) ?_)) <;> ((try with_reducible intro K1 hK1); simp only [go_sem, ↓reduceIte, reduceCtorEq, nA, nB, nC, nD, nE, nF] <;> and_intros <;> first | (apply hK1; clear hK1 K1) | (intros; first | omega | decide | (simp_all <;> omega)) | skip))))
      simp only [Tryz.results36, go_sem, ↓reduceIte, reduceCtorEq, nA, nB, nC, nD, nE, nF]
      exact ⟨_, _, Weak.refl _, Hp.le.refl _, by rw [HW.out]; rfl, rfl⟩
     | false =>
      (repeat (first | refine gO rfl ?_ | ((first | refine gM zM37 ?_ | (with_reducible refine wM ?_ ?_) | ((with_reducible refine xS ?_); refine uD 9 zM37 zP11E zP11P 53 rfl (by kernel_rfl) ?_)) <;> ((try with_reducible intro K1 hK1); simp only [go_sem, ↓reduceIte, reduceCtorEq, nA, nB, nC, nD, nE, nF] <;> and_intros <;> first | (apply hK1; clear hK1 K1) | (intros; first | omega | decide | (simp_all <;> omega)) | skip))))
      refine (ho2 _).mono ?_; rintro _ hz ⟨rfl, hh⟩; refine ⟨rfl, hK1 _ ?_⟩; clear hK1 K1; rw [hh]; clear hh hz
      cases b2 with
      | true =>
       (repeat (first | refine gO rfl ?_ | ((first | refine gM zM37 ?_ | (with_reducible refine wM ?_ ?_) | ((with_reducible refine xS ?_); refine uD 9 zM37 zP11E zP11P 53 rfl (by kernel_rfl) ?_)) <;> ((try with_reducible intro K1 hK1); simp only [go_sem, ↓reduceIte, reduceCtorEq, nA, nB, nC, nD, nE, nF] <;> and_intros <;> first | (apply hK1; clear hK1 K1) | (intros; first | omega | decide | (simp_all <;> omega)) | skip))))
       refine awp_cond (t := _) rfl (fun _ => ?_) (fun h9 => by cases h9)
       (repeat (first | refine gO rfl ?_ | ((first | refine gM zM37 ?_ | (with_reducible refine wM ?_ ?_) | ((with_reducible refine xS ?_); refine uD 9 zM37 zP11E zP11P 53 rfl (by kernel_rfl) ?_)) <;> ((try with_reducible intro K1 hK1); simp only [go_sem, ↓reduceIte, reduceCtorEq, nA, nB, nC, nD, nE, nF] <;> and_intros <;> first | (apply hK1; clear hK1 K1) | (intros; first | omega | decide | (simp_all <;> omega)) | skip))))
       simp only [Tryz.results36, go_sem, ↓reduceIte, reduceCtorEq, nA, nB, nC, nD, nE, nF]
       exact ⟨_, _, Weak.refl _, Hp.le.refl _, by rw [HW.out]; rfl, rfl⟩
      | false =>
       (repeat (first | refine gO rfl ?_ | ((first | refine gM zM37 ?_ | (with_reducible refine wM ?_ ?_) | ((with_reducible refine xS ?_); refine uD 9 zM37 zP11E zP11P 53 rfl (by kernel_rfl) ?_)) <;> ((try with_reducible intro K1 hK1); simp only [go_sem, ↓reduceIte, reduceCtorEq, nA, nB, nC, nD, nE, nF] <;> and_intros <;> first | (apply hK1; clear hK1 K1) | (intros; first | omega | decide | (simp_all <;> omega)) | skip))))
       refine awp_cond (t := _) rfl (fun h9 => by cases h9) (fun _ => ?_)
       simp only [outB, Bool.or_eq_false_iff, decide_eq_false_iff_not] at ha1
       (repeat (first | refine gO rfl ?_ | ((first | refine gM zM37 ?_ | (with_reducible refine wM ?_ ?_) | ((with_reducible refine xS ?_); refine uD 9 zM37 zP11E zP11P 53 rfl (by kernel_rfl) ?_)) <;> ((try with_reducible intro K1 hK1); simp only [go_sem, ↓reduceIte, reduceCtorEq, nA, nB, nC, nD, nE, nF] <;> and_intros <;> first | (apply hK1; clear hK1 K1) | (intros; first | omega | decide | (simp_all <;> omega)) | skip))))
       exact ⟨g - 1, by omega, j + 1, q + x.2.1, by omega, by omega, Lib.hid (by rw [HW.out, hpv]; rfl), rfl⟩
 ·simp only [decide_eq_false_iff_not] at h2
  have hjl : j = ws.length := by omega
  subst hjl
  rw [List.drop_length, wantL_nil] at HW
  (repeat (first | refine gO rfl ?_ | ((first | refine gM zM37 ?_ | (with_reducible refine wM ?_ ?_) | ((with_reducible refine xS ?_); refine uD 9 zM37 zP11E zP11P 53 rfl (by kernel_rfl) ?_)) <;> ((try with_reducible intro K1 hK1); simp only [go_sem, ↓reduceIte, reduceCtorEq, nA, nB, nC, nD, nE, nF] <;> and_intros <;> first | (apply hK1; clear hK1 K1) | (intros; first | omega | decide | (simp_all <;> omega)) | skip))))
  refine awp_cond (t := _) rfl (fun h3 => ?_) (fun h3 => ?_)
  ·simp only [decide_eq_true_eq] at h3
   (repeat (first | refine gO rfl ?_ | ((first | refine gM zM37 ?_ | (with_reducible refine wM ?_ ?_) | ((with_reducible refine xS ?_); refine uD 9 zM37 zP11E zP11P 53 rfl (by kernel_rfl) ?_)) <;> ((try with_reducible intro K1 hK1); simp only [go_sem, ↓reduceIte, reduceCtorEq, nA, nB, nC, nD, nE, nF] <;> and_intros <;> first | (apply hK1; clear hK1 K1) | (intros; first | omega | decide | (simp_all <;> omega)) | skip))))
   simp only [Tryz.results36, go_sem, ↓reduceIte, reduceCtorEq, nA, nB, nC, nD, nE, nF]
   exact ⟨_, _, Weak.refl _, Hp.le.refl _, by rw [HW.out, if_pos h3], rfl⟩
  ·simp only [decide_eq_false_iff_not] at h3
   (repeat (first | refine gO rfl ?_ | ((first | refine gM zM37 ?_ | (with_reducible refine wM ?_ ?_) | ((with_reducible refine xS ?_); refine uD 9 zM37 zP11E zP11P 53 rfl (by kernel_rfl) ?_)) <;> ((try with_reducible intro K1 hK1); simp only [go_sem, ↓reduceIte, reduceCtorEq, nA, nB, nC, nD, nE, nF] <;> and_intros <;> first | (apply hK1; clear hK1 K1) | (intros; first | omega | decide | (simp_all <;> omega)) | skip))))
   simp only [Tryz.results36, go_sem, ↓reduceIte, reduceCtorEq, nA, nB, nC, nD, nE, nF]
   exact ⟨_, _, Weak.refl _, Hp.le.refl _, by rw [HW.out, if_neg h3], rfl⟩
abbrev zP12E : List Nat := [0, 1, 2, 3, 4, 5, 6]
abbrev zP12P : List (Nat × List Nat × List Nat) := [(7, [2], [8]), (9, [], [])]
attribute [go_sem] zP12E zP12P
structure WantOk (ws : List Wn) : Prop where
 len : ws.length ≤ 12
 each : ∀ x ∈ ws, (1 ≤ x.2.1 ∧ x.2.1 ≤ 12) ∧ (0 ≤ x.2.2 ∧ x.2.2 ≤ 12)
 sum : (ws.map (·.2.1)).sum ≤ 12
theorem if_seven {pb : Bool} {X : Int} (h : (if pb = true then (7 : Int) else X) = 0) : X = 0 := by
 cases pb with
 | true => cases h
 | false => exact h
theorem wantL_ok : ∀ (ws : List Wn) (p : Option ByteArray) (s : Int), wantL p s ws = 0 → (∀ x ∈ ws, (1 ≤ x.2.1 ∧ x.2.1 ≤ 12) ∧ (0 ≤ x.2.2 ∧ x.2.2 ≤ 12)) ∧ s + (ws.map (·.2.1)).sum ≤ 12
 | [], p, s, h => by
  rw [wantL_nil] at h
  split at h
  ·cases h
  ·exact ⟨by simp, by simp; omega⟩
 | w :: ws, p, s, h => by
  rw [wantL_cons] at h
  by_cases hk : keyB w.1 = true
  ·rw [if_pos hk] at h
   have h := if_seven h
   split at h
   ·cases h
   ·rename_i h1
    obtain ⟨a, b⟩ := wantL_ok ws _ _ h
    simp only [outB, Bool.or_eq_true, decide_eq_true_eq, not_or] at h1
    refine ⟨fun x hx => ?_, by simp only [List.map_cons, List.sum_cons]; omega⟩
    rcases List.mem_cons.1 hx with rfl | hx
    ·omega
    ·exact a x hx
  ·rw [if_neg hk] at h; cases h
theorem want_ok {ws : List Wn} (h : wantE ws = 0) : WantOk ws := by
 unfold wantE at h
 split at h
 ·cases h
 ·obtain ⟨a, b⟩ := wantL_ok ws _ _ h
  exact ⟨by omega, a, by omega⟩
def manyS (ws : List Wn) : List Int := ws.map (·.2.1)
def allS (ws : List Wn) : Nat := (manyS ws).sum.toNat
def spreadV (ws : List Wn) : Option (List ByteArray) := (solve (apt ws) (allS ws) (manyS ws) (List.replicate ws.length 0)).map (·.map (itm ws))
theorem WantOk.nonneg {ws : List Wn} (h : WantOk ws) : ∀ x ∈ manyS ws, 0 ≤ x ∧ x ≤ 12 := fun x hx => by
 obtain ⟨y, hy, rfl⟩ := List.mem_map.1 hx
 have := (h.each y hy).1; omega
theorem sum_nonneg' : ∀ {L : List Int} (_ : ∀ x ∈ L, 0 ≤ x), 0 ≤ L.sum
 | [], _ => by simp
 | a :: L, h => by have := sum_nonneg' (L := L) fun x hx => h x (by simp [hx]); have := h a (by simp); simp only [List.sum_cons]; omega
theorem WantOk.all {ws : List Wn} (h : WantOk ws) : (manyS ws).sum = allS ws ∧ allS ws ≤ 12 := by
 have h1 := sum_nonneg' (L := manyS ws) fun x hx => (h.nonneg x hx).1
 have h2 : (manyS ws).sum ≤ 12 := h.sum
 unfold allS; omega
theorem WantOk.apt {ws : List Wn} (h : WantOk ws) : ∀ x ∈ apt ws, 0 ≤ x ∧ x ≤ 12 := fun x hx => by
 obtain ⟨y, hy, rfl⟩ := List.mem_map.1 hx
 have := (h.each y hy).2; omega
theorem WantOk.sps {ws : List Wn} (h : WantOk ws) : SpS (Go.Proofs.YtoleejecmefogaaGreatDoor.apt ws) (allS ws) (manyS ws) (List.replicate ws.length 0) :=
 ⟨by simp [manyS], by simp [manyS, Go.Proofs.YtoleejecmefogaaGreatDoor.apt], h.nonneg, fun x hx => by rw [(List.mem_replicate.1 hx).2]; omega, h.apt, h.all.1, h.all.2⟩
theorem waits_start {ws : List Wn} (h : WantOk ws) : waits (apt ws) (List.replicate ws.length (-100)) 0 = List.replicate ws.length 0 := by
 have hl : (List.replicate ws.length (-100 : Int)).length = (apt ws).length := by simp [apt]
 have hal : (apt ws).length = ws.length := by simp [apt]
 apply List.ext_getElem (by rw [waits_len hl]; simp [hal])
 intro j h1 h2
 have hj : j < (apt ws).length := by rw [hal]; simpa using h2
 have e1 : (waits (apt ws) (List.replicate ws.length (-100)) 0)[j] = (waits (apt ws) (List.replicate ws.length (-100)) 0).getD j 0 := by rw [List.getD_eq_getElem?_getD, List.getElem?_eq_getElem h1]; rfl
 rw [e1, waits_get hl _ hj]
 have h3 := h.apt _ (mem_getD _ hj)
 have h4 : (List.replicate ws.length (-100 : Int)).getD j 0 = -100 := by simp [List.getD_eq_getElem?_getD, List.getElem?_replicate, show j < ws.length by omega]
 rw [h4, List.getElem_replicate]; omega
theorem set_next (A : List Int) (k : Nat) (x : Int) : (A ++ List.replicate (k + 1) 0).set A.length x = (A ++ [x]) ++ List.replicate k 0 := by
 rw [List.set_append_right _ _ (Nat.le_refl _), Nat.sub_self, List.replicate_succ, List.set_cons_zero, List.append_assoc]; rfl
theorem set_next100 (j k : Nat) : (List.replicate j (-100 : Int) ++ List.replicate (k + 1) 0).set j (-100) = List.replicate (j + 1) (-100) ++ List.replicate k 0 := by
 have h := List.set_append_right (s := List.replicate j (-100 : Int)) (t := List.replicate (k + 1) 0) (i := j) (x := -100) (by simp)
 rw [h, List.length_replicate, Nat.sub_self, List.replicate_succ, List.set_cons_zero, List.replicate_succ' (n := j), List.append_assoc]; rfl
structure SpI (h : Hp) (il i3 i4 ia kl kc : Nat) (ws : List Wn) (L la : List Int) (all : Int) : Prop where
 hl : h.H il = some (.cells [.row 3 (ws.map encW) none])
 h3 : h.H i3 = some (.cells [.arr 1 kl ws.length])
 h4 : h.H i4 = some (.cells [.arr 1 kc ws.length])
 ha : h.H ia = some (.cells [.v (.int .i64 all)])
 tl : h.T kl = some (.cont 1 (L.map encI))
 tc : h.T kc = some (.cont 1 (la.map encI))
 n1 : kl ≠ kc
 n2 : il ≠ ia ∧ i3 ≠ ia ∧ i4 ≠ ia
theorem g_spreadR (ws : List Wn) (h : Hp) (hW : WantOk ws) : ACalls Tryz.prog 39 [.row 3 (ws.map encW) none] h (fun r _ => r = match spreadV ws with
  | some p => .tup [.row 1 (p.map encS) none, .v (.bool true)]
  | none => .tup [.row 1 [] none, .v (.bool false)]) := by
 have hn := hW.len
 refine gE Tryz.func39 rfl (by kernel_rfl) 41 rfl fun c => ?_
 (repeat (first | refine gO rfl ?_ | ((first | refine gM zM38 ?_ | (with_reducible refine wM ?_ ?_) | ((with_reducible refine xS ?_); refine uD 7 zM38 zP12E zP12P 42 rfl (by kernel_rfl) ?_)) <;> ((try with_reducible intro K1 hK1); simp only [go_sem, ↓reduceIte, reduceCtorEq, nA, nB, nC, nD, nE, nF] <;> and_intros <;> first | (apply hK1; clear hK1 K1) | (intros; first | omega | decide | (simp_all <;> omega)) | skip))))
 intro il hil
 refine hK1 _ ?_; clear hK1 K1
 (repeat (first | refine gO rfl ?_ | ((first | refine gM zM38 ?_ | (with_reducible refine wM ?_ ?_) | ((with_reducible refine xS ?_); refine uD 7 zM38 zP12E zP12P 42 rfl (by kernel_rfl) ?_)) <;> ((try with_reducible intro K1 hK1); simp only [go_sem, ↓reduceIte, reduceCtorEq, nA, nB, nC, nD, nE, nF, upd_same] <;> and_intros <;> first | (apply hK1; clear hK1 K1) | (intros; first | omega | decide | (simp_all <;> omega)) | skip))))
 intro kl hkl i3 hi3
 have a1 : i3 ≠ il := fun e => by rw [e, upd_same] at hi3; cases hi3
 rw [upd_other _ _ a1] at hi3
 have z1 : ∀ X, upd (upd h.H il (some (.cells [.row 3 (ws.map encW) none]))) i3 X il = some (.cells [.row 3 (ws.map encW) none]) := fun X => by rw [upd_other _ _ (Ne.symm a1), upd_same]
 refine hK1 _ ?_; clear hK1 K1
 (repeat (first | refine gO rfl ?_ | ((first | refine gM zM38 ?_ | (with_reducible refine wM ?_ ?_) | ((with_reducible refine xS ?_); refine uD 7 zM38 zP12E zP12P 42 rfl (by kernel_rfl) ?_)) <;> ((try with_reducible intro K1 hK1); simp only [go_sem, ↓reduceIte, reduceCtorEq, nA, nB, nC, nD, nE, nF, z1, Int.toNat_natCast] <;> and_intros <;> first | (apply hK1; clear hK1 K1) | (intros; first | omega | decide | (simp_all <;> omega)) | skip))))
 intro kc hkc i4 hi4
 have b1 : kc ≠ kl := fun e => by rw [e, upd_same] at hkc; cases hkc
 have a2 : i4 ≠ i3 := fun e => by rw [e, upd_same] at hi4; cases hi4
 have a3 : i4 ≠ il := fun e => by rw [e, z1] at hi4; cases hi4
 have z2 : ∀ X Y, upd (upd (upd h.H il (some (.cells [.row 3 (ws.map encW) none]))) i3 X) i4 Y il = some (.cells [.row 3 (ws.map encW) none]) := fun X Y => by rw [upd_other _ _ (Ne.symm a3)]; exact z1 X
 refine hK1 _ ?_; clear hK1 K1
 (repeat (first | refine gO rfl ?_ | ((first | refine gM zM38 ?_ | (with_reducible refine wM ?_ ?_) | ((with_reducible refine xS ?_); refine uD 7 zM38 zP12E zP12P 42 rfl (by kernel_rfl) ?_)) <;> ((try with_reducible intro K1 hK1); simp only [go_sem, ↓reduceIte, reduceCtorEq, nA, nB, nC, nD, nE, nF, z2, Int.toNat_natCast] <;> and_intros <;> first | (apply hK1; clear hK1 K1) | (intros; first | omega | decide | (simp_all <;> omega)) | skip))))
 intro ia hia
 have a4 : ia ≠ i4 := fun e => by rw [e, upd_same] at hia; cases hia
 rw [upd_other _ _ a4] at hia
 have a5 : ia ≠ i3 := fun e => by rw [e, upd_same] at hia; cases hia
 rw [upd_other _ _ a5] at hia
 have a6 : ia ≠ il := fun e => by rw [e, upd_same] at hia; cases hia
 refine hK1 _ ?_; clear hK1 K1
 have hI : SpI ⟨upd (upd (upd (upd h.H il (some (.cells [.row 3 (ws.map encW) none]))) i3 (some (.cells [.arr 1 kl ws.length]))) i4 (some (.cells [.arr 1 kc ws.length]))) ia (some (.cells [.v (.int .i64 0)])),
   upd (upd h.T kl (some (.cont 1 (List.replicate ws.length [.v (.int .i64 0)])))) kc (some (.cont 1 (List.replicate ws.length [.v (.int .i64 0)])))⟩ il i3 i4 ia kl kc ws (List.replicate ws.length 0) (List.replicate ws.length 0) 0 := by
  refine ⟨?_, ?_, ?_, upd_same _ _ _, ?_, ?_, Ne.symm b1, Ne.symm a6, Ne.symm a5, Ne.symm a4⟩
  ·show upd _ _ _ _ = _; rw [upd_other _ _ (Ne.symm a6)]; exact z2 _ _
  ·show upd _ _ _ _ = _; rw [upd_other _ _ (Ne.symm a5), upd_other _ _ (Ne.symm a2), upd_same]
  ·show upd _ _ _ _ = _; rw [upd_other _ _ (Ne.symm a4), upd_same]
  ·show upd _ _ _ _ = _; rw [upd_other _ _ (Ne.symm b1), upd_same, List.map_replicate]; rfl
  ·show upd _ _ _ _ = _; rw [upd_same, List.map_replicate]; rfl
 clear z1 z2 a1 a2 a3 a4 a5 a6 b1 hkl hkc hil hi3 hi4 hia
 generalize (⟨upd (upd (upd (upd h.H il (some (.cells [.row 3 (ws.map encW) none]))) i3 (some (.cells [.arr 1 kl ws.length]))) i4 (some (.cells [.arr 1 kc ws.length]))) ia (some (.cells [.v (.int .i64 0)])),
   upd (upd h.T kl (some (.cont 1 (List.replicate ws.length [.v (.int .i64 0)])))) kc (some (.cont 1 (List.replicate ws.length [.v (.int .i64 0)])))⟩ : Hp) = h2 at *
 have e1 := hI.hl
 (repeat (first | refine gO rfl ?_ | ((first | refine gM zM38 ?_ | (with_reducible refine wM ?_ ?_) | ((with_reducible refine xS ?_); refine uD 7 zM38 zP12E zP12P 42 rfl (by kernel_rfl) ?_)) <;> ((try with_reducible intro K1 hK1); simp only [go_sem, ↓reduceIte, reduceCtorEq, nA, nB, nC, nD, nE, nF, e1] <;> and_intros <;> first | (apply hK1; clear hK1 K1) | (intros; first | omega | decide | (simp_all <;> omega)) | skip))))
 clear e1
 refine awp_loopC (rl false [1, 1, 2, 3, 10, 3, 22]) 0 (fun g s => ∃ (j : Nat) (h3 : Hp), g + j = ws.length ∧ SpI h3 il i3 i4 ia kl kc ws ((manyS ws).take j ++ List.replicate (ws.length - j) 0) (List.replicate j (-100) ++ List.replicate (ws.length - j) 0) ((manyS ws).take j).sum ∧
  s = ⟨(AV.junk :: ((.ptr il 0) :: AV.junk :: AV.junk :: ((.ptr i3 0) :: (.ptr i4 0) :: (.ptr ia 0) :: (jnk 10 ((.row 3 (ws.map encW) none) :: (.v (.int .i64 ws.length)) :: (.v (.int .i64 j)) :: (jnk 22 [])))))), [], h3⟩) ws.length ⟨0, h2, by omega, by simpa using hI, rfl⟩ ?_
 rintro g _ ⟨j, h3, hj, hI3, rfl⟩
 clear hI
 (repeat (first | refine gO rfl ?_ | ((first | refine gM zM38 ?_ | (with_reducible refine wM ?_ ?_) | ((with_reducible refine xS ?_); refine uD 7 zM38 zP12E zP12P 42 rfl (by kernel_rfl) ?_)) <;> ((try with_reducible intro K1 hK1); simp only [go_sem, ↓reduceIte, reduceCtorEq, nA, nB, nC, nD, nE, nF] <;> and_intros <;> first | (apply hK1; clear hK1 K1) | (intros; first | omega | decide | (simp_all <;> omega)) | skip))))
 refine awp_cond (t := _) rfl (fun h5 => ?_) (fun h5 => ?_)
 ·simp only [decide_eq_true_eq] at h5
  have hjl : j < ws.length := by omega
  have gx : (ws.map encW).getD j [] = [.v (.string (ws.getD j default).1), .v (.int .i64 (ws.getD j default).2.1), .v (.int .i64 (ws.getD j default).2.2)] := getD_enc encW ws j default hjl
  have hml : (manyS ws).length = ws.length := by simp [manyS]
  have gm : (manyS ws).getD j 0 = (ws.getD j default).2.1 := by simp [manyS, List.getD_eq_getElem?_getD, hjl]
  have ht : (manyS ws).take (j + 1) = (manyS ws).take j ++ [(manyS ws).getD j 0] := by
   rw [List.take_add_one, List.getElem?_eq_getElem (by omega), List.getD_eq_getElem?_getD, List.getElem?_eq_getElem (by omega)]; rfl
  have hmj := hW.nonneg _ (mem_getD (manyS ws) (i := j) (by omega))
  have hs0 : 0 ≤ ((manyS ws).take j).sum ∧ ((manyS ws).take j).sum ≤ 12 := by
   have h1 := sum_nonneg' (L := (manyS ws).take j) fun x hx => (hW.nonneg x (List.mem_of_mem_take hx)).1
   have h2 := sum_nonneg' (L := (manyS ws).drop j) fun x hx => (hW.nonneg x (List.mem_of_mem_drop hx)).1
   have h3 : (manyS ws).sum = ((manyS ws).take j).sum + ((manyS ws).drop j).sum := by rw [← List.sum_append, List.take_append_drop]
   have := hW.all
   omega
  rw [gm] at ht hmj
  have hk : ws.length - j = (ws.length - (j + 1)) + 1 := by omega
  have htl : ((manyS ws).take j).length = j := by rw [List.length_take]; omega
  have hset : ∀ x, ((manyS ws).take j ++ List.replicate (ws.length - j) 0).set j x = ((manyS ws).take j ++ [x]) ++ List.replicate (ws.length - (j + 1)) 0 := fun x => by
   have := set_next ((manyS ws).take j) (ws.length - (j + 1)) x
   rw [htl] at this
   rw [hk]; exact this
  have hset2 : (List.replicate j (-100 : Int) ++ List.replicate (ws.length - j) 0).set j (-100) = List.replicate (j + 1) (-100) ++ List.replicate (ws.length - (j + 1)) 0 := by rw [hk]; exact set_next100 _ _
  have e3 := hI3.h3
  have e4 := hI3.h4
  have ea := hI3.ha
  have el := hI3.tl
  have ec := hI3.tc
  have n1 := hI3.n1
  have n2 := hI3.n2
  have l1 : ((((manyS ws).take j ++ List.replicate (ws.length - j) 0)).map encI).length = ws.length := by rw [List.length_map, List.length_append, htl, List.length_replicate]; omega
  have l2 : (((List.replicate j (-100 : Int) ++ List.replicate (ws.length - j) 0)).map encI).length = ws.length := by rw [List.length_map, List.length_append, List.length_replicate, List.length_replicate]; omega
  have s1 := fun x => set_encI ((manyS ws).take j ++ List.replicate (ws.length - j) 0) j x
  have s2 := fun x => set_encI (List.replicate j (-100 : Int) ++ List.replicate (ws.length - j) 0) j x
  have gl := getD_encI (L := (manyS ws).take j ++ List.replicate (ws.length - j) 0) (j := j) (by rw [List.length_map] at l1; omega)
  have gc := getD_encI (L := List.replicate j (-100 : Int) ++ List.replicate (ws.length - j) 0) (j := j) (by rw [List.length_map] at l2; omega)
  generalize ws.getD j default = x at *
  have ec2 : ∀ X, upd h3.T kl X kc = some (.cont 1 ((List.replicate j (-100 : Int) ++ List.replicate (ws.length - j) 0).map encI)) := fun X => by rw [upd_other _ _ (Ne.symm n1)]; exact ec
  have hsum : ((manyS ws).take (j + 1)).sum = ((manyS ws).take j).sum + x.2.1 := by rw [ht]; simp
  (repeat (first | refine gO rfl ?_ | ((first | refine gM zM38 ?_ | (with_reducible refine wM ?_ ?_) | ((with_reducible refine xS ?_); refine uD 7 zM38 zP12E zP12P 42 rfl (by kernel_rfl) ?_)) <;> ((try with_reducible intro K1 hK1); simp only [go_sem, ↓reduceIte, reduceCtorEq, nA, nB, nC, nD, nE, nF, Int.toNat_natCast, gx, e3, e4, ea, el, ec, ec2, l1, l2, s1, s2, hset, hset2, gl, gc, hjl] <;> and_intros <;> first | (apply hK1; clear hK1 K1) | (intros; first | omega | decide | (simp_all <;> omega)) | skip))))
  refine ⟨g - 1, by omega, j + 1, _, by omega, ⟨?_, ?_, ?_, ?_, ?_, ?_, n1, n2⟩, rfl⟩
  ·show upd _ _ _ _ = _; rw [upd_other _ _ n2.1]; exact hI3.hl
  ·show upd _ _ _ _ = _; rw [upd_other _ _ n2.2.1]; exact e3
  ·show upd _ _ _ _ = _; rw [upd_other _ _ n2.2.2]; exact e4
  ·show upd _ _ _ _ = _; rw [upd_same, hsum]
  ·show upd _ _ _ _ = _; rw [upd_other _ _ n1, upd_same, ht]
  ·show upd _ _ _ _ = _; rw [upd_same]
 ·simp only [decide_eq_false_iff_not] at h5
  have hjl : j = ws.length := by omega
  subst hjl
  have hT : (manyS ws).take ws.length = manyS ws := List.take_of_length_le (by simp [manyS])
  rw [hT, Nat.sub_self, List.replicate_zero, List.append_nil, List.append_nil, hW.all.1] at hI3
  (repeat (first | refine gQ rfl ?_ | ((first | refine gM zM38 ?_ | (with_reducible refine wM ?_ ?_) | ((with_reducible refine xS ?_); refine uD 7 zM38 zP12E zP12P 42 rfl (by kernel_rfl) ?_)) <;> ((try with_reducible intro K1 hK1); simp only [go_sem, ↓reduceIte, reduceCtorEq, nA, nB, nC, nD, nE, nF] <;> and_intros <;> first | (apply hK1; clear hK1 K1) | (intros; first | omega | decide | (simp_all <;> omega)) | skip))))
  intro ir hir
  have n2 := hI3.n2
  have b1 : il ≠ ir := fun e => by rw [← e, hI3.hl] at hir; cases hir
  have b2 : i3 ≠ ir := fun e => by rw [← e, hI3.h3] at hir; cases hir
  have b3 : i4 ≠ ir := fun e => by rw [← e, hI3.h4] at hir; cases hir
  have b4 : ia ≠ ir := fun e => by rw [← e, hI3.ha] at hir; cases hir
  refine hK1 _ ?_; clear hK1 K1
  (repeat (first | refine gQ rfl ?_ | ((first | refine gM zM38 ?_ | (with_reducible refine wM ?_ ?_) | ((with_reducible refine xS ?_); refine uD 7 zM38 zP12E zP12P 42 rfl (by kernel_rfl) ?_)) <;> ((try with_reducible intro K1 hK1); simp only [go_sem, ↓reduceIte, reduceCtorEq, nA, nB, nC, nD, nE, nF] <;> and_intros <;> first | (apply hK1; clear hK1 K1) | (intros; first | omega | decide | (simp_all <;> omega)) | skip))))
  intro it hit
  have c0 : it ≠ ir := fun e => by rw [e, upd_same] at hit; cases hit
  rw [upd_other _ _ c0] at hit
  have c1 : il ≠ it := fun e => by rw [← e, hI3.hl] at hit; cases hit
  have c2 : i3 ≠ it := fun e => by rw [← e, hI3.h3] at hit; cases hit
  have c3 : i4 ≠ it := fun e => by rw [← e, hI3.h4] at hit; cases hit
  have c4 : ia ≠ it := fun e => by rw [← e, hI3.ha] at hit; cases hit
  refine hK1 _ ?_; clear hK1 K1
  (repeat (first | refine gQ rfl ?_ | ((first | refine gM zM38 ?_ | (with_reducible refine wM ?_ ?_) | ((with_reducible refine xS ?_); refine uD 7 zM38 zP12E zP12P 42 rfl (by kernel_rfl) ?_)) <;> ((try with_reducible intro K1 hK1); simp only [go_sem, ↓reduceIte, reduceCtorEq, nA, nB, nC, nD, nE, nF, upd_same] <;> and_intros <;> first | (apply hK1; clear hK1 K1) | (intros; first | omega | decide | (simp_all <;> omega)) | skip))))
  refine awp_ownObj ir 0 1 (cs := [.v (.slice none 0 0)]) ?_ rfl (fun ko hko => ?_)
  ·show upd _ _ _ _ = _
   rw [upd_other _ _ (Ne.symm c0), upd_same]
  replace hko : h3.T ko = none := hko
  have d1 : kl ≠ ko := fun e => by rw [← e, hI3.tl] at hko; cases hko
  have d2 : kc ≠ ko := fun e => by rw [← e, hI3.tc] at hko; cases hko
  have hS : TrS ⟨upd (upd (upd h3.H ir (some (.cells [.v (.slice none 0 0)]))) it (some (.cells [.fn 93 [.ptr ir 0, .ptr ia 0, .ptr il 0, .ptr i3 0, .ptr i4 0, .ptr it 0]]))) ir (some (.cells [.arr 1 ko 0])), upd h3.T ko (some (.cont 1 []))⟩
    ir ia il i3 i4 it kl kc ko ws (manyS ws) (List.replicate ws.length (-100)) [] (allS ws) := by
   refine ⟨upd_same _ _ _, ?_, ?_, ?_, ?_, ?_, ?_, ?_, upd_same _ _ _, ⟨hI3.n1, d1, d2⟩, ⟨b4, b1, b2, b3, c0⟩⟩
   ·show upd _ _ _ _ = _; rw [upd_other _ _ b4, upd_other _ _ c4, upd_other _ _ b4]; exact hI3.ha
   ·show upd _ _ _ _ = _; rw [upd_other _ _ b1, upd_other _ _ c1, upd_other _ _ b1]; exact hI3.hl
   ·show upd _ _ _ _ = _; rw [upd_other _ _ b2, upd_other _ _ c2, upd_other _ _ b2]; exact hI3.h3
   ·show upd _ _ _ _ = _; rw [upd_other _ _ b3, upd_other _ _ c3, upd_other _ _ b3]; exact hI3.h4
   ·show upd _ _ _ _ = _; rw [upd_other _ _ c0, upd_same]
   ·show upd _ _ _ _ = _; rw [upd_other _ _ d1]; exact hI3.tl
   ·show upd _ _ _ _ = _; rw [upd_other _ _ d2]; exact hI3.tc
  have hB : TrB ws (allS ws) (manyS ws) (List.replicate ws.length (-100)) [] (allS ws) := by
   refine ⟨by simp, ?_, fun x hx => ?_, by simp, hW.all.2⟩
   ·show SpS _ _ _ (waits _ _ 0)
    rw [waits_start hW]; exact hW.sps
   ·rw [(List.mem_replicate.1 hx).2]; simp
  refine (?_ : ∀ h5, TrS h5 ir ia il i3 i4 it kl kc ko ws (manyS ws) (List.replicate ws.length (-100)) [] (allS ws) → Awp _ c _ _ ⟨(AV.junk :: ((.ptr il 0) :: AV.junk :: AV.junk :: ((.ptr i3 0) :: (.ptr i4 0) :: (.ptr ia 0) :: AV.junk :: AV.junk :: ((.ptr ir 0) :: (.ptr it 0) :: (jnk 6 ((.row 3 (ws.map encW) none) :: (.v (.int .i64 ws.length)) :: (.v (.int .i64 ws.length)) :: (.v (.bool (decide ((ws.length : Int) < ws.length)))) :: (jnk 16 ((_) :: (jnk 4 []))))))))), [], h5⟩) _ hS
  clear hS hI3 hir hit hko
  intro h5 hS
  have e1 := hS.ht
  refine awp_seq ?_
  (repeat (first | refine gO rfl ?_ | ((first | refine gM zM38 ?_ | (with_reducible refine wM ?_ ?_) | ((with_reducible refine xS ?_); refine uD 7 zM38 zP12E zP12P 42 rfl (by kernel_rfl) ?_)) <;> ((try with_reducible intro K1 hK1); simp only [go_sem, ↓reduceIte, reduceCtorEq, nA, nB, nC, nD, nE, nF, e1] <;> and_intros <;> first | (apply hK1; clear hK1 K1) | (intros; first | omega | decide | (simp_all <;> omega)) | skip))))
  refine (g_try ws hn ir ia il i3 i4 it kl kc (allS ws) (allS ws) ko (manyS ws) (List.replicate ws.length (-100)) [] h5 hS hB).mono ?_
  rintro r6 h6 ⟨ko', L', la', hm⟩
  have e0 : (([] : List ByteArray).length : Int) = 0 := rfl
  rw [e0, waits_start hW] at hm
  have hv : spreadV ws = (solve (apt ws) (allS ws) (manyS ws) (List.replicate ws.length 0)).map (·.map (itm ws)) := rfl
  cases e : solve (apt ws) (allS ws) (manyS ws) (List.replicate ws.length 0) with
  | none =>
   rw [e] at hm
   obtain ⟨rfl, hS6⟩ := hm
   refine hK1 _ ?_; clear hK1 K1
   (repeat (first | refine gO rfl ?_ | ((first | refine gM zM38 ?_ | (with_reducible refine wM ?_ ?_) | ((with_reducible refine xS ?_); refine uD 7 zM38 zP12E zP12P 42 rfl (by kernel_rfl) ?_)) <;> ((try with_reducible intro K1 hK1); simp only [go_sem, ↓reduceIte, reduceCtorEq, nA, nB, nC, nD, nE, nF] <;> and_intros <;> first | (apply hK1; clear hK1 K1) | (intros; first | omega | decide | (simp_all <;> omega)) | skip))))
   refine awp_cond (t := _) rfl (fun _ => ?_) (fun h9 => by cases h9)
   (repeat (first | refine gO rfl ?_ | ((first | refine gM zM38 ?_ | (with_reducible refine wM ?_ ?_) | ((with_reducible refine xS ?_); refine uD 7 zM38 zP12E zP12P 42 rfl (by kernel_rfl) ?_)) <;> ((try with_reducible intro K1 hK1); simp only [go_sem, ↓reduceIte, reduceCtorEq, nA, nB, nC, nD, nE, nF] <;> and_intros <;> first | (apply hK1; clear hK1 K1) | (intros; first | omega | decide | (simp_all <;> omega)) | skip))))
   simp only [Tryz.results39, go_sem, ↓reduceIte, reduceCtorEq, nA, nB, nC, nD, nE, nF]
   rw [e] at hv
   exact ⟨_, _, Weak.tup1 (Weak.nil 1 0 0 ⟨rfl, rfl⟩) (Weak.refl _), Hp.le.refl _, by rw [hv]; rfl⟩
  | some p =>
   rw [e] at hm
   obtain ⟨rfl, hS6⟩ := hm
   rw [List.nil_append] at hS6
   have e2 := hS6.hr
   refine hK1 _ ?_; clear hK1 K1
   (repeat (first | refine gO rfl ?_ | ((first | refine gM zM38 ?_ | (with_reducible refine wM ?_ ?_) | ((with_reducible refine xS ?_); refine uD 7 zM38 zP12E zP12P 42 rfl (by kernel_rfl) ?_)) <;> ((try with_reducible intro K1 hK1); simp only [go_sem, ↓reduceIte, reduceCtorEq, nA, nB, nC, nD, nE, nF] <;> and_intros <;> first | (apply hK1; clear hK1 K1) | (intros; first | omega | decide | (simp_all <;> omega)) | skip))))
   refine awp_cond (t := _) rfl (fun h9 => by cases h9) (fun _ => ?_)
   have hT := hS6.tq
   have hz : ∀ y ∈ (p.map (itm ws)).map encS, y.length = 1 := fun y hy => by obtain ⟨x, _, rfl⟩ := List.mem_map.1 hy; rfl
   have hlq : (p.map (itm ws)).length = ((p.map (itm ws)).map encS).length := by simp
   rw [hlq] at e2
   rw [e] at hv
   have hv2 : (match spreadV ws with | some p => AV.tup [.row 1 (p.map encS) none, .v (.bool true)] | none => .tup [.row 1 [] none, .v (.bool false)]) = .tup [.row 1 ((p.map (itm ws)).map encS) none, .v (.bool true)] := by rw [hv]; rfl
   generalize (p.map (itm ws)).map encS = xs at *
   (first | refine gO rfl ?_ | ((first | refine gM zM38 ?_ | (with_reducible refine wM ?_ ?_) | ((with_reducible refine xS ?_); refine uD 7 zM38 zP12E zP12P 42 rfl (by kernel_rfl) ?_)) <;> ((try with_reducible intro K1 hK1); simp only [go_sem, ↓reduceIte, reduceCtorEq, nA, nB, nC, nD, nE, nF, e2] <;> and_intros <;> first | (apply hK1; clear hK1 K1) | (intros; first | omega | decide | (simp_all <;> omega)) | skip))); (first | refine gO rfl ?_ | ((first | refine gM zM38 ?_ | (with_reducible refine wM ?_ ?_) | ((with_reducible refine xS ?_); refine uD 7 zM38 zP12E zP12P 42 rfl (by kernel_rfl) ?_)) <;> ((try with_reducible intro K1 hK1); simp only [go_sem, ↓reduceIte, reduceCtorEq, nA, nB, nC, nD, nE, nF, e2] <;> and_intros <;> first | (apply hK1; clear hK1 K1) | (intros; first | omega | decide | (simp_all <;> omega)) | skip))); (first | refine gO rfl ?_ | ((first | refine gM zM38 ?_ | (with_reducible refine wM ?_ ?_) | ((with_reducible refine xS ?_); refine uD 7 zM38 zP12E zP12P 42 rfl (by kernel_rfl) ?_)) <;> ((try with_reducible intro K1 hK1); simp only [go_sem, ↓reduceIte, reduceCtorEq, nA, nB, nC, nD, nE, nF, e2] <;> and_intros <;> first | (apply hK1; clear hK1 K1) | (intros; first | omega | decide | (simp_all <;> omega)) | skip))); (first | refine gO rfl ?_ | ((first | refine gM zM38 ?_ | (with_reducible refine wM ?_ ?_) | ((with_reducible refine xS ?_); refine uD 7 zM38 zP12E zP12P 42 rfl (by kernel_rfl) ?_)) <;> ((try with_reducible intro K1 hK1); simp only [go_sem, ↓reduceIte, reduceCtorEq, nA, nB, nC, nD, nE, nF, e2] <;> and_intros <;> first | (apply hK1; clear hK1 K1) | (intros; first | omega | decide | (simp_all <;> omega)) | skip)))
   refine awp_frz 2 ko' 1 (xs := xs) rfl hT hz ?_
   (repeat (first | refine gO rfl ?_ | ((first | refine gM zM38 ?_ | (with_reducible refine wM ?_ ?_) | ((with_reducible refine xS ?_); refine uD 7 zM38 zP12E zP12P 42 rfl (by kernel_rfl) ?_)) <;> ((try with_reducible intro K1 hK1); simp only [go_sem, ↓reduceIte, reduceCtorEq, nA, nB, nC, nD, nE, nF] <;> and_intros <;> first | (apply hK1; clear hK1 K1) | (intros; first | omega | decide | (simp_all <;> omega)) | skip))))
   simp only [Tryz.results39, go_sem, ↓reduceIte, reduceCtorEq, nA, nB, nC, nD, nE, nF]
   exact ⟨_, _, Weak.refl _, Hp.le.refl _, hv2.symm⟩
end Go.Proofs.YtoleejecmefogaaGreatDoor
