/-
  DERIVED: THE SHELF's CONTRACTS AT THIS DUMP, IN PLAIN WORDS (tools/lay-plain.mjs out of 'TryzIter.lean', which tools/lay-shelf.mjs wrote): THE SAME DECLARATIONS UNDER THE SAME NAMES: 'import', 'namespace', 'open', 'def', 'theorem' AND NOTHING ELSE: no command of the shelf's: FOR A HAND-IN. Each laying: the table of numbers ('.._ren') and one theorem, a field a fact of the dump's own or the kernel's comparison; each contract: ONE APPLICATION.
-/
import Derived.Test.YtoleejecmefogaaGreatDoorM2
import Derived.Shelf.SlIter.Nil
import Derived.Shelf.SortM.Plain
import Derived.Shelf.SortM.SortNone
import Derived.Ground.GgzProg
import Derived.Ground.SlgmProg
import Derived.Test.YtoleejecmefogaaGreatDoorProg
import Derived.Test.YtoleejecmefogaaGreatDoorShelf
import Derived.Deep.DeepCutAuto
import Derived.Deep.LoopGhost
import Derived.Below
namespace Go.Proofs
open Go.Shelf
set_option linter.unusedVariables false
set_option linter.unusedSimpArgs false
def Tryz.keys80_ren : Go.Shelf.Ren := ⟨fun | 7 => 80 | 10 => 139 | n => n, fun | 23 => 127 | 26 => 9 | 3 => 133 | 28 => 131 | 0 => 0 | 27 => 130 | 33 => 140 | 4 => 4 | n => n, fun | n => n⟩
theorem Tryz.keys80 : Go.Proofs.SlLaysZ.n7 Tryz.prog Tryz.keys80_ren := {
  mixed := by kernel_rfl
  f7 := ⟨Tryz.f80.name, by decide, Tryz.func80.trans (congrArg some (by kernel_rfl))⟩
  f10 := ⟨Tryz.f139.name, by decide, Tryz.func139.trans (congrArg some (by kernel_rfl))⟩
  t0 := Tryz.underlying0
  a0 := Tryz.isAgg0
  z0 := Tryz.sizeOf0
  v0 := Tryz.zeroValue0
  t4 := Tryz.underlying4
  a4 := Tryz.isAgg4
  z4 := Tryz.sizeOf4
  v4 := Tryz.zeroValue4
  t23 := Tryz.underlying127
  a23 := Tryz.isAgg127
  z23 := Tryz.sizeOf127
  v23 := Tryz.zeroValue127
  t26 := Tryz.underlying9
  a26 := Tryz.isAgg9
  z26 := Tryz.sizeOf9
  v26 := Tryz.zeroValue9
  t27 := Tryz.underlying130
  a27 := Tryz.isAgg130
  z27 := Tryz.sizeOf130
  v27 := Tryz.zeroValue130
  t28 := Tryz.underlying131
  a28 := Tryz.isAgg131
  z28 := Tryz.sizeOf131
  v28 := Tryz.zeroValue131
  t33 := Tryz.underlying140
  a33 := Tryz.isAgg140
  z33 := Tryz.sizeOf140
  v33 := Tryz.zeroValue140 }
def Tryz.sorted79_ren : Go.Shelf.Ren := ⟨fun | 6 => 79 | 8 => 137 | 9 => 138 | 11 => 185 | 13 => 151 | 12 => 186 | 23 => 204 | 24 => 205 | 14 => 223 | 15 => 224 | 16 => 225 | 17 => 226 | 18 => 227 | 19 => 228 | 20 => 229 | 21 => 230 | 22 => 231 | 25 => 258 | 26 => 240 | 27 => 241 | 28 => 259 | 29 => 260 | 30 => 261 | 31 => 281 | n => n, fun | 26 => 9 | 28 => 131 | 24 => 80 | 0 => 0 | 3 => 3 | 37 => 225 | 48 => 278 | 50 => 280 | 4 => 4 | 40 => 272 | 39 => 271 | 45 => 190 | 5 => 5 | 9 => 9 | 51 => 304 | 55 => 308 | 57 => 323 | 58 => 116 | 33 => 140 | n => n, fun | n => n⟩
theorem Tryz.sorted79 : Go.Proofs.SlLaysZ.n6 Tryz.prog Tryz.sorted79_ren := {
  mixed := by kernel_rfl
  f6 := ⟨Tryz.f79.name, by decide, Tryz.func79.trans (congrArg some (by kernel_rfl))⟩
  f8 := ⟨Tryz.f137.name, by decide, Tryz.func137.trans (congrArg some (by kernel_rfl))⟩
  f11 := ⟨Tryz.f185.name, by decide, Tryz.func185.trans (congrArg some (by kernel_rfl))⟩
  t0 := Tryz.underlying0
  a0 := Tryz.isAgg0
  z0 := Tryz.sizeOf0
  v0 := Tryz.zeroValue0
  t24 := Tryz.underlying80
  a24 := Tryz.isAgg80
  z24 := Tryz.sizeOf80
  v24 := Tryz.zeroValue80
  t26 := Tryz.underlying9
  a26 := Tryz.isAgg9
  z26 := Tryz.sizeOf9
  v26 := Tryz.zeroValue9
  t28 := Tryz.underlying131
  a28 := Tryz.isAgg131
  z28 := Tryz.sizeOf131
  v28 := Tryz.zeroValue131
  i26 := by kernel_rfl }
def Tryz.sort138_ren : Go.Shelf.Ren := ⟨fun | 6 => 138 | 8 => 151 | 9 => 186 | 19 => 204 | 20 => 205 | 21 => 223 | 22 => 224 | 23 => 225 | 24 => 226 | 25 => 227 | 26 => 228 | 27 => 229 | 28 => 230 | 29 => 231 | 36 => 258 | 31 => 240 | 32 => 241 | 37 => 259 | 38 => 260 | 39 => 261 | 41 => 281 | n => n, fun | 27 => 80 | 29 => 9 | 3 => 3 | 32 => 225 | 26 => 80 | 0 => 0 | 44 => 278 | 46 => 280 | 4 => 4 | 36 => 272 | 35 => 271 | 41 => 190 | 5 => 5 | 9 => 9 | 53 => 304 | 57 => 308 | 63 => 323 | 64 => 116 | n => n, fun | n => n⟩
theorem Tryz.sort138 : Go.Proofs.SlLaysM.n6 Tryz.prog Tryz.sort138_ren := {
  mixed := by kernel_rfl
  f6 := ⟨Tryz.f138.name, by decide, Tryz.func138.trans (congrArg some (by kernel_rfl))⟩
  f8 := Tryz.func151.trans (congrArg some (by kernel_rfl))
  f9 := ⟨Tryz.f186.name, by decide, Tryz.func186.trans (congrArg some (by kernel_rfl))⟩
  f19 := Tryz.func204.trans (congrArg some (by kernel_rfl))
  f20 := Tryz.func205.trans (congrArg some (by kernel_rfl))
  f21 := ⟨Tryz.f223.name, by decide, Tryz.func223.trans (congrArg some (by kernel_rfl))⟩
  f22 := ⟨Tryz.f224.name, by decide, Tryz.func224.trans (congrArg some (by kernel_rfl))⟩
  f23 := ⟨Tryz.f225.name, by decide, Tryz.func225.trans (congrArg some (by kernel_rfl))⟩
  f24 := ⟨Tryz.f226.name, by decide, Tryz.func226.trans (congrArg some (by kernel_rfl))⟩
  f25 := ⟨Tryz.f227.name, by decide, Tryz.func227.trans (congrArg some (by kernel_rfl))⟩
  f26 := ⟨Tryz.f228.name, by decide, Tryz.func228.trans (congrArg some (by kernel_rfl))⟩
  f27 := ⟨Tryz.f229.name, by decide, Tryz.func229.trans (congrArg some (by kernel_rfl))⟩
  f28 := ⟨Tryz.f230.name, by decide, Tryz.func230.trans (congrArg some (by kernel_rfl))⟩
  f29 := ⟨Tryz.f231.name, by decide, Tryz.func231.trans (congrArg some (by kernel_rfl))⟩
  f31 := Tryz.func240.trans (congrArg some (by kernel_rfl))
  f32 := Tryz.func241.trans (congrArg some (by kernel_rfl))
  f36 := ⟨Tryz.f258.name, by decide, Tryz.func258.trans (congrArg some (by kernel_rfl))⟩
  f37 := ⟨Tryz.f259.name, by decide, Tryz.func259.trans (congrArg some (by kernel_rfl))⟩
  f38 := ⟨Tryz.f260.name, by decide, Tryz.func260.trans (congrArg some (by kernel_rfl))⟩
  f39 := ⟨Tryz.f261.name, by decide, Tryz.func261.trans (congrArg some (by kernel_rfl))⟩
  f41 := ⟨Tryz.f281.name, by decide, Tryz.func281.trans (congrArg some (by kernel_rfl))⟩
  t0 := Tryz.underlying0
  a0 := Tryz.isAgg0
  z0 := Tryz.sizeOf0
  v0 := Tryz.zeroValue0
  t3 := Tryz.underlying3
  a3 := Tryz.isAgg3
  z3 := Tryz.sizeOf3
  v3 := Tryz.zeroValue3
  t4 := Tryz.underlying4
  a4 := Tryz.isAgg4
  z4 := Tryz.sizeOf4
  v4 := Tryz.zeroValue4
  t5 := Tryz.underlying5
  a5 := Tryz.isAgg5
  z5 := Tryz.sizeOf5
  v5 := Tryz.zeroValue5
  t9 := Tryz.underlying9
  a9 := Tryz.isAgg9
  z9 := Tryz.sizeOf9
  v9 := Tryz.zeroValue9
  t26 := Tryz.underlying80
  a26 := Tryz.isAgg80
  z26 := Tryz.sizeOf80
  v26 := Tryz.zeroValue80
  t27 := Tryz.underlying80
  a27 := Tryz.isAgg80
  z27 := Tryz.sizeOf80
  v27 := Tryz.zeroValue80
  t29 := Tryz.underlying9
  a29 := Tryz.isAgg9
  z29 := Tryz.sizeOf9
  v29 := Tryz.zeroValue9
  t32 := Tryz.underlying225
  a32 := Tryz.isAgg225
  z32 := Tryz.sizeOf225
  v32 := Tryz.zeroValue225
  t35 := Tryz.underlying271
  a35 := Tryz.isAgg271
  z35 := Tryz.sizeOf271
  v35 := Tryz.zeroValue271
  t36 := Tryz.underlying272
  a36 := Tryz.isAgg272
  z36 := Tryz.sizeOf272
  v36 := Tryz.zeroValue272
  t41 := Tryz.underlying190
  a41 := Tryz.isAgg190
  z41 := Tryz.sizeOf190
  v41 := Tryz.zeroValue190
  t44 := Tryz.underlying278
  a44 := Tryz.isAgg278
  z44 := Tryz.sizeOf278
  v44 := Tryz.zeroValue278
  t46 := Tryz.underlying280
  a46 := Tryz.isAgg280
  z46 := Tryz.sizeOf280
  v46 := Tryz.zeroValue280
  t53 := Tryz.underlying304
  a53 := Tryz.isAgg304
  z53 := Tryz.sizeOf304
  v53 := Tryz.zeroValue304
  t57 := Tryz.underlying308
  a57 := Tryz.isAgg308
  z57 := Tryz.sizeOf308
  v57 := Tryz.zeroValue308
  t63 := Tryz.underlying323
  a63 := Tryz.isAgg323
  z63 := Tryz.sizeOf323
  v63 := Tryz.zeroValue323
  t64 := Tryz.underlying116
  a64 := Tryz.isAgg116
  z64 := Tryz.sizeOf116
  v64 := Tryz.zeroValue116 }
open Go.RowKit Go.Maps Go.Sort in
theorem Tryz.sorts79 (m : Nat) : AnyZ.SortsIn Tryz.prog Tryz.sorted79_ren Fence.wide m :=
  ⟨fun blk off cap ss W hH hblk hsz => callsIn_wide.2 (AnyM.slices_Sort_string Tryz.sort138 blk off cap ss W hH hblk hsz),
   fun p cap W => callsIn_wide.2 (AnyM.slices_Sort_string_none Tryz.sort138 p cap W)⟩
end Go.Proofs
namespace Go.Proofs.YtoleejecmefogaaGreatDoor
open Go.RowKit Go.Maps Go.Sort Go.Shelf Go.WideElems Go.MapKept
set_option linter.unusedVariables false
set_option linter.unusedSimpArgs false
def keyL (x : MapEntry) : List UInt8 := match x.key with
  | .string s => s.data.toList
  | _ => []
def okR {H : Type} : Value → Option (DataW H × List MemPlace) := fun _ => some (.lit (.bool true), [])
theorem ents_fit {H : Type} {P : Program} {k : TypeId} (hk : P.underlying k = some .string) {ents : Array MapEntry} {clock : Nat} (hst : Stamped ents clock) (hs : ∀ x ∈ ents.toList, ∃ s : ByteArray, x.key = .string s ∧ s.size ≤ maxLen) (hl : ents.size ≤ maxLen) : Fit (H := H) P k okR ents clock := by
  refine ⟨hl, hst, fun x hx => ?_⟩
  obtain ⟨s, e, hsz⟩ := hs x hx
  exact ⟨(.string s.data.toList, .lit (.bool true)), by simp [Go.WideElems.rd, keyOf, hk, e, mapKey, hsz, okR]⟩
theorem ents_keys {H : Type} {P : Program} {k : TypeId} (hk : P.underlying k = some .string) {l : List MapEntry} (hs : ∀ x ∈ l, ∃ s : ByteArray, x.key = .string s ∧ s.size ≤ maxLen) : (l.map (Go.WideElems.rg (H := H) P k okR)).map (fun p => strOf p.1) = l.map keyL := by
  rw [List.map_map]
  refine List.map_congr_left fun x hx => ?_
  obtain ⟨s, e, hsz⟩ := hs x hx
  have : Go.WideElems.rd (H := H) P k okR x = some (.string s.data.toList, .lit (.bool true)) := by simp [Go.WideElems.rd, keyOf, hk, e, mapKey, hsz, okR]
  simp [Go.WideElems.rg, this, strOf, keyL, e]
set_option maxRecDepth 100000 in
set_option maxHeartbeats 1000000 in
theorem sorted_walk (p b : Nat) (ents : Array MapEntry) (clock : Nat) (W : World) (hp : W.cell? ⟨p, 0, none⟩ = some (.map (some b))) (hb : W.heap[b]? = some (.map ents clock)) (hst : Stamped ents clock)
    (hs : ∀ x ∈ ents.toList, ∃ s : ByteArray, x.key = .string s ∧ s.size ≤ maxLen) (hl : ents.size ≤ 100000) :
    Calls Tryz.prog 79 #[.func (.func 139) #[] #[.pointer (some ⟨p, 0, none⟩)]] W fun e w' => ∃ (v : Value) (ss : List (List UInt8)), e = .returned v ∧ ss.Perm (ents.toList.map keyL) ∧
      w'.ownsRow W.heap.size 9 1 v ss.length ((ss.mergeSort (fun x y => decide (x ≤ y))).map encStr) ∧ Below W.heap.size W w' := by
  have hk : Tryz.prog.underlying 9 = some .string := Tryz.underlying9
  have hmx : (100000 : Nat) ≤ maxLen := by decide
  have F := ents_fit (H := Unit) hk hst hs (by omega)
  have hpb : p < W.heap.size := World.block_lt_of_cell? W _ hp
  have hperm : ((ents.toList.map (Go.WideElems.rg (H := Unit) Tryz.prog 9 okR)).foldr DataW.insert []).Perm (ents.toList.map (Go.WideElems.rg Tryz.prog 9 okR)) := Go.WideShapes.sorted_perm _
  have hlen : Maps.size (.map ((ents.toList.map (Go.WideElems.rg (H := Unit) Tryz.prog 9 okR)).foldr DataW.insert [])) = ents.size := by
    rw [Maps.size_eq, hperm.length_eq]; simp
  have hown : W.ownsMap Tryz.prog 9 (okR (H := Unit)) b ents.size (.map ((ents.toList.map (Go.WideElems.rg Tryz.prog 9 okR)).foldr DataW.insert [])) := ⟨ents, clock, hb, F, Nat.le_refl _, rfl⟩
  have hseq := AnyZ.keys_gives (ρ := Tryz.keys80_ren) { Tryz.keys80 with } Fence.wide 2 trivial rfl (by omega) p b ents.size _ W hpb hp hown
  have hc := AnyZ.sorted_in Tryz.sorted79 Fence.wide 5 trivial trivial trivial trivial rfl (by omega) (Tryz.sorts79 _) (enters_of Tryz.func138 (by kernel_rfl) rfl) 139 #[.pointer (some ⟨p, 0, none⟩)] trivial
    (enters_of Tryz.func139 (by kernel_rfl) rfl) _ _ (by rw [hlen]; omega) (by rw [hlen]; omega) W hseq
  refine (callsIn_wide.1 hc).mono ?_
  rintro e w' ⟨v, ss, rfl, hS, hrow, _, hbel⟩
  refine ⟨v, ss, rfl, hS.trans ?_, hrow, hbel⟩
  rw [← ents_keys (H := Unit) hk hs]
  exact hperm.map _
open Go
open Nat renaming reduceAdd → nA, reduceSub → nB, reduceMul → nC, reduceLT → nD, reduceLeDiff → nE, reduceEqDiff → nF
abbrev pSCome2_78_8E : List Nat := [0, 1, 2, 3, 4, 5, 6, 7, 8, 9, 10, 11]
abbrev pSCome2_78_8P : List (Nat × List Nat × List Nat) := [(12, [], [])]
attribute [go_sem] pSCome2_78_8E pSCome2_78_8P
set_option maxRecDepth 100000
set_option maxHeartbeats 8000000
theorem g_tallies (xs : List (ByteArray × Int)) (h : Hp) (hp : Pos xs) (hl : xs.length ≤ 5000) : ACalls Tryz.prog 78 [.row 2 (xs.map encStep) none] h (fun r h' => ∃ m ks f, r = .map m ∧ TalI h' m xs (xs.map (·.1)) ks f) := by
  refine gE Tryz.func78 rfl (by kernel_rfl) 46 rfl fun c => ?_
  (repeat (first | refine gQ (by decide) ?_ | ((first | refine gM (mdL [(5, 1), (22, 2)]) ?_ | (with_reducible refine wM ?_ ?_) | ((with_reducible refine xR ?_); refine uE 8 (mdL [(5, 1), (22, 2)]) pSCome2_78_8E pSCome2_78_8P 47 rfl (by kernel_rfl) ?_)) <;> ((try with_reducible intro K1 hK1); simp only [go_sem, ↓reduceIte, reduceCtorEq, nA, nB, nC, nD, nE, nF] <;> and_intros <;> first | (apply hK1; clear hK1 K1) | (intros; first | omega | decide | (simp_all <;> omega)) | skip))))
  intro m hm
  refine hK1 _ ?_; clear hK1 K1
  (repeat (first | refine gQ (by decide) ?_ | ((first | refine gM (mdL [(5, 1), (22, 2)]) ?_ | (with_reducible refine wM ?_ ?_) | ((with_reducible refine xR ?_); refine uE 8 (mdL [(5, 1), (22, 2)]) pSCome2_78_8E pSCome2_78_8P 47 rfl (by kernel_rfl) ?_)) <;> ((try with_reducible intro K1 hK1); simp only [go_sem, ↓reduceIte, reduceCtorEq, nA, nB, nC, nD, nE, nF] <;> and_intros <;> first | (apply hK1; clear hK1 K1) | (intros; first | omega | decide | (simp_all <;> omega)) | skip))))
  refine awp_seq ?_
  (repeat (first | refine gO (by decide) ?_ | ((first | refine gM (mdL [(5, 1), (22, 2)]) ?_ | (with_reducible refine wM ?_ ?_) | ((with_reducible refine xR ?_); refine uE 8 (mdL [(5, 1), (22, 2)]) pSCome2_78_8E pSCome2_78_8P 47 rfl (by kernel_rfl) ?_)) <;> ((try with_reducible intro K1 hK1); simp only [go_sem, ↓reduceIte, reduceCtorEq, nA, nB, nC, nD, nE, nF] <;> and_intros <;> first | (apply hK1; clear hK1 K1) | (intros; first | omega | decide | (simp_all <;> omega)) | skip))))
  refine awp_loopC (rl false [3, 1, 3, 3, 37]) 0 (fun g s => ∃ (j : Nat) (h2 : Hp) (ks : List ByteArray) (f : ByteArray → Nat), g + j = xs.length ∧ TalI h2 m (xs.take j) ((xs.take j).map (·.1)) ks f ∧
    s = ⟨((jnk 3 ((.map m) :: (jnk 3 ((.row 2 (xs.map encStep) none) :: (.v (.int .i64 xs.length)) :: (.v (.int .i64 j)) :: (jnk 37 [])))))), [], h2⟩) xs.length ⟨0, _, [], fun _ => 0, by omega, TalI.nil (upd_same _ _ _), rfl⟩ ?_
  rintro g _ ⟨j, h2, ks, f, hj, hT, rfl⟩
  (repeat (first | refine gO (by decide) ?_ | ((first | refine gM (mdL [(5, 1), (22, 2)]) ?_ | (with_reducible refine wM ?_ ?_) | ((with_reducible refine xR ?_); refine uE 8 (mdL [(5, 1), (22, 2)]) pSCome2_78_8E pSCome2_78_8P 47 rfl (by kernel_rfl) ?_)) <;> ((try with_reducible intro K1 hK1); simp only [go_sem, ↓reduceIte, reduceCtorEq, nA, nB, nC, nD, nE, nF] <;> and_intros <;> first | (apply hK1; clear hK1 K1) | (intros; first | omega | decide | (simp_all <;> omega)) | skip))))
  refine awp_cond (t := _) rfl (fun h1 => ?_) (fun h1 => ?_)
  · simp only [decide_eq_true_eq] at h1
    have hjl : j < xs.length := by omega
    have gx : (xs.map encStep).getD j [] = encStep (xs.getD j default) := getD_enc encStep xs j default hjl
    have tx : (xs.take (j + 1)).map (·.1) = (xs.take j).map (·.1) ++ [(xs.getD j default).1] := by rw [take_at xs j hjl]; simp
    have hxb := pos_at hp hjl
    obtain ⟨q, hq⟩ : ∃ q, (xs.getD j default).1 = q := ⟨_, rfl⟩
    obtain ⟨y, hy⟩ : ∃ y, (xs.getD j default).2 = y := ⟨_, rfl⟩
    have gx2 : (xs.map encStep).getD j [] = [.v (.string q), .v (.int .i64 y)] := by rw [gx, encStep, hq, hy]
    rw [hy] at hxb
    rw [hq] at tx
    have hM := hT.map
    clear gx
    (repeat (first | refine gQ (by decide) ?_ | ((first | refine gM (mdL [(5, 1), (22, 2)]) ?_ | (with_reducible refine wM ?_ ?_) | ((with_reducible refine xR ?_); refine uE 8 (mdL [(5, 1), (22, 2)]) pSCome2_78_8E pSCome2_78_8P 47 rfl (by kernel_rfl) ?_)) <;> ((try with_reducible intro K1 hK1); simp only [go_sem, ↓reduceIte, reduceCtorEq, nA, nB, nC, nD, nE, nF, Int.toNat_natCast, gx2] <;> and_intros <;> first | (apply hK1; clear hK1 K1) | (intros; first | omega | decide | (simp_all <;> omega)) | skip))))
    refine awp_seq ?_
    refine awp_block ?_
    (repeat (first | refine gQ (by decide) ?_ | ((first | refine gM (mdL [(5, 1), (22, 2)]) ?_ | (with_reducible refine wM ?_ ?_) | ((with_reducible refine xR ?_); refine uE 8 (mdL [(5, 1), (22, 2)]) pSCome2_78_8E pSCome2_78_8P 47 rfl (by kernel_rfl) ?_)) <;> ((try with_reducible intro K1 hK1); simp only [go_sem, ↓reduceIte, reduceCtorEq, nA, nB, nC, nD, nE, nF, Int.toNat_natCast, gx2] <;> and_intros <;> first | (apply hK1; clear hK1 K1) | (intros; first | omega | decide | (simp_all <;> omega)) | skip))))
    refine awp_seq ?_
    refine awp_join (rl false [3, 1, 1, 1, 1, 3, 37]) 1 (fun s => ∃ (h3 : Hp) (ks3 : List ByteArray) (f3 : ByteArray → Nat), q ∈ ks3 ∧ TalI h3 m (xs.take j) ((xs.take (j + 1)).map (·.1)) ks3 f3 ∧
      s = ⟨((jnk 3 ((.map m) :: AV.junk :: ((.loc 0 0) :: AV.junk :: ((.row 2 (xs.map encStep) none) :: (.v (.int .i64 xs.length)) :: (.v (.int .i64 j)) :: (jnk 37 [])))))), [[.v (.string q), .v (.int .i64 y)]], h3⟩) ?_ ?_
    · by_cases hk : q ∈ ks
      · have hG := (mget_ptrs f ks q).1 hk
        (repeat (first | refine gO (by decide) ?_ | ((first | refine gM (mdL [(5, 1), (22, 2)]) ?_ | (with_reducible refine wM ?_ ?_) | ((with_reducible refine xR ?_); refine uE 8 (mdL [(5, 1), (22, 2)]) pSCome2_78_8E pSCome2_78_8P 47 rfl (by kernel_rfl) ?_)) <;> ((try with_reducible intro K1 hK1); simp only [go_sem, ↓reduceIte, reduceCtorEq, nA, nB, nC, nD, nE, nF, hM, hG] <;> and_intros <;> first | (apply hK1; clear hK1 K1) | (intros; first | omega | decide | (simp_all <;> omega)) | skip))))
        refine awp_cond (t := _) rfl (fun h9 => by cases h9) (fun _ => ?_)
        (repeat (first | refine gO (by decide) ?_ | ((first | refine gM (mdL [(5, 1), (22, 2)]) ?_ | (with_reducible refine wM ?_ ?_) | ((with_reducible refine xR ?_); refine uE 8 (mdL [(5, 1), (22, 2)]) pSCome2_78_8E pSCome2_78_8P 47 rfl (by kernel_rfl) ?_)) <;> ((try with_reducible intro K1 hK1); simp only [go_sem, ↓reduceIte, reduceCtorEq, nA, nB, nC, nD, nE, nF] <;> and_intros <;> first | (apply hK1; clear hK1 K1) | (intros; first | omega | decide | (simp_all <;> omega)) | skip))))
        exact ⟨_, ks, f, hk, by rw [tx]; exact hT.same hk, rfl⟩
      · have hG := (mget_ptrs f ks q).2 hk
        (repeat (first | refine gO (by decide) ?_ | ((first | refine gM (mdL [(5, 1), (22, 2)]) ?_ | (with_reducible refine wM ?_ ?_) | ((with_reducible refine xR ?_); refine uE 8 (mdL [(5, 1), (22, 2)]) pSCome2_78_8E pSCome2_78_8P 47 rfl (by kernel_rfl) ?_)) <;> ((try with_reducible intro K1 hK1); simp only [go_sem, ↓reduceIte, reduceCtorEq, nA, nB, nC, nD, nE, nF, hM, hG] <;> and_intros <;> first | (apply hK1; clear hK1 K1) | (intros; first | omega | decide | (simp_all <;> omega)) | skip))))
        refine awp_cond (t := _) rfl (fun _ => ?_) (fun h9 => by cases h9)
        (repeat (first | refine gO (by decide) ?_ | ((first | refine gM (mdL [(5, 1), (22, 2)]) ?_ | (with_reducible refine wM ?_ ?_) | ((with_reducible refine xR ?_); refine uE 8 (mdL [(5, 1), (22, 2)]) pSCome2_78_8E pSCome2_78_8P 47 rfl (by kernel_rfl) ?_)) <;> ((try with_reducible intro K1 hK1); simp only [go_sem, ↓reduceIte, reduceCtorEq, nA, nB, nC, nD, nE, nF, hM, hG] <;> and_intros <;> first | (apply hK1; clear hK1 K1) | (intros; first | omega | decide | (simp_all <;> omega)) | skip))))
        intro i hi
        have him : m ≠ i := fun e => by rw [← e, hM] at hi; cases hi
        have hMi : ∀ X, upd h2.H i X m = some (AO.map (ptrsL f ks)) := fun X => by rw [upd_other _ _ him]; exact hM
        simp only [hMi]
        refine hK1 _ ?_; clear hK1 K1
        (repeat (first | refine gO (by decide) ?_ | ((first | refine gM (mdL [(5, 1), (22, 2)]) ?_ | (with_reducible refine wM ?_ ?_) | ((with_reducible refine xR ?_); refine uE 8 (mdL [(5, 1), (22, 2)]) pSCome2_78_8E pSCome2_78_8P 47 rfl (by kernel_rfl) ?_)) <;> ((try with_reducible intro K1 hK1); simp only [go_sem, ↓reduceIte, reduceCtorEq, nA, nB, nC, nD, nE, nF] <;> and_intros <;> first | (apply hK1; clear hK1 K1) | (intros; first | omega | decide | (simp_all <;> omega)) | skip))))
        have hz := longF_zero (xs := xs.take j) (k := q) (fun e => hk ((hT.mem q).2 e))
        refine ⟨_, ks ++ [q], fun k => if k = q then i else f k, by simp, ?_, rfl⟩
        rw [tx]
        refine hT.born hk hi ?_ ?_ fun n h5 h6 => ?_
        · show upd _ m _ m = _
          rw [upd_same, mset_ptrs hk]
        · show upd _ m _ i = _
          rw [upd_other _ _ (Ne.symm him), upd_same, tCell, hz.1, hz.2]; rfl
        · show upd _ m _ n = _
          rw [upd_other _ _ h6, upd_other _ _ h5]
    · rintro _ ⟨h3, ks3, f3, hk3, hT3, rfl⟩
      have hM3 := hT3.map
      have hG3 := (mget_ptrs f3 ks3 q).1 hk3
      have hC3 := hT3.cell q hk3
      have hne := hT3.ne q hk3
      rw [tCell] at hC3
      have hM4 : ∀ X, upd h3.H (f3 q) X m = some (AO.map (ptrsL f3 ks3)) := fun X => by rw [upd_other _ _ (Ne.symm hne)]; exact hM3
      have hcl := cntF_le (xs.take j) q
      have hlj : (xs.take j).length ≤ 5000 := by rw [List.length_take]; omega
      have hlb := longF_bd (xs := xs.take j) (fun x hx => hp x (List.mem_of_mem_take hx)) q
      obtain ⟨cn, hcn⟩ : ∃ cn, cntF (xs.take j) q = cn := ⟨_, rfl⟩
      obtain ⟨lg, hlg⟩ : ∃ lg, longF (xs.take j) q = lg := ⟨_, rfl⟩
      rw [hcn, hlg] at hC3
      rw [hcn] at hcl
      rw [hlg] at hlb
      (repeat (first | refine gO (by decide) ?_ | ((first | refine gM (mdL [(5, 1), (22, 2)]) ?_ | (with_reducible refine wM ?_ ?_) | ((with_reducible refine xR ?_); refine uE 8 (mdL [(5, 1), (22, 2)]) pSCome2_78_8E pSCome2_78_8P 47 rfl (by kernel_rfl) ?_)) <;> ((try with_reducible intro K1 hK1); simp only [go_sem, ↓reduceIte, reduceCtorEq, nA, nB, nC, nD, nE, nF, hM3, hG3, hC3, hM4, upd_same] <;> and_intros <;> first | (apply hK1; clear hK1 K1) | (intros; first | omega | decide | (simp_all <;> omega)) | skip))))
      refine ⟨g - 1, by omega, j + 1, _, ks3, f3, by omega, hT3.more hjl hq hk3 ?_ (fun i hi => upd_other _ _ hi), rfl⟩
      show upd _ (f3 q) _ (f3 q) = _
      rw [upd_same, tCell, cntF_yes hjl hq, longF_yes hjl hq, hcn, hlg, hy]; rfl
  · simp only [decide_eq_false_iff_not] at h1
    have hjl : j = xs.length := by omega
    subst hjl
    rw [List.take_length] at *
    (repeat (first | refine gO (by decide) ?_ | ((first | refine gM (mdL [(5, 1), (22, 2)]) ?_ | (with_reducible refine wM ?_ ?_) | ((with_reducible refine xR ?_); refine uE 8 (mdL [(5, 1), (22, 2)]) pSCome2_78_8E pSCome2_78_8P 47 rfl (by kernel_rfl) ?_)) <;> ((try with_reducible intro K1 hK1); simp only [go_sem, ↓reduceIte, reduceCtorEq, nA, nB, nC, nD, nE, nF] <;> and_intros <;> first | (apply hK1; clear hK1 K1) | (intros; first | omega | decide | (simp_all <;> omega)) | skip))))
    simp only [Tryz.results78, go_sem, ↓reduceIte, reduceCtorEq, nA, nB, nC, nD, nE, nF]
    exact ⟨_, _, Weak.refl _, Hp.le.refl _, m, ks, f, rfl, hT⟩
theorem g_keys (m : Nat) (h : Hp) : ACalls Tryz.prog 80 [.map m] h (fun r h' => ∃ i, h.H i = none ∧ r = .fn 139 [.ptr i 0] ∧ h' = { h with H := upd h.H i (some (.cells [.map m])) }) := by
  refine gE Tryz.func80 rfl (by kernel_rfl) 3 rfl fun c => ?_
  (repeat (first | refine gO (by decide) ?_ | (refine gM (mdL [(1, 2)]) fun K1 hK1 => ?_; simp only [go_sem, ↓reduceIte, reduceCtorEq, nA, nB, nC, nD, nE, nF] <;> and_intros <;> first | (apply hK1; clear hK1 K1) | (intros; first | omega | decide | (simp_all <;> omega)) | skip)))
  intro i hi
  refine hK1 _ ?_; clear hK1 K1
  (repeat (first | refine gO (by decide) ?_ | (refine gM (mdL [(1, 2)]) fun K1 hK1 => ?_; simp only [go_sem, ↓reduceIte, reduceCtorEq, nA, nB, nC, nD, nE, nF] <;> and_intros <;> first | (apply hK1; clear hK1 K1) | (intros; first | omega | decide | (simp_all <;> omega)) | skip)))
  simp only [Tryz.results80, go_sem, ↓reduceIte, reduceCtorEq, nA, nB, nC, nD, nE, nF]
  exact ⟨_, _, Weak.refl _, Hp.le.refl _, i, hi, rfl, rfl⟩
theorem g_sorted (i m : Nat) (es : List (ByteArray × AV)) (ns : List ByteArray) (h : Hp) (hi : h.H i = some (.cells [.map m])) (hm : h.H m = some (.map es)) (hmem : ∀ k, k ∈ es.map (·.1) ↔ k ∈ ns) (hsz : ∀ k ∈ es.map (·.1), k.size ≤ 1000000) (hl : es.length ≤ 100000) :
    ACalls Tryz.prog 79 [.fn 139 [.ptr i 0]] h (fun r h' => r = .row 1 ((onceS ns).map encS) none ∧ h' = h) := by
  refine acalls_mk (by kernel_rfl) fun G w vs hs hv ha => ?_
  have hr := ha 0 (by simp)
  have hvs : vs = #[vs.getD 0 undef] := by
    have hv1 : vs.size = 1 := hv
    apply Array.ext (by simpa using hv1)
    intro j hj hj'
    simp only [List.size_toArray, List.length_cons, List.length_nil] at hj'
    obtain rfl : j = 0 := by omega
    simp [Array.getD, hv1]
  rw [hvs]
  generalize vs.getD 0 undef = v at *
  simp only [List.getElem_cons_zero] at hr
  cases hr with
  | fn _ _ us u hlu huu hru =>
  have h0 := hru 0 (by simp)
  have hu0 := huu 0 (by simp)
  simp only [List.getElem_cons_zero] at h0
  have hus : us = #[u 0] := by
    have hl1 : us.size = 1 := hlu
    apply Array.ext (by simpa using hl1)
    intro j hj hj'
    simp only [List.size_toArray, List.length_cons, List.length_nil] at hj'
    obtain rfl : j = 0 := by omega
    rw [Array.getElem?_eq_getElem hj] at hu0
    simpa using hu0
  rw [hus]
  generalize u 0 = p0 at h0
  cases h0 with
  | ptr _ _ p hat =>
  obtain ⟨p', ob, e', hh, ⟨cs, E, rfl, hcr⟩, _⟩ := hs.obj i _ hi
  rw [hat] at e'; cases e'
  obtain ⟨x, hx, hrx, _⟩ := hcr.getD (j := 0) (by simp)
  simp only [List.getD_cons_zero] at hrx
  cases hrx with
  | map _ b hab =>
  have hcell : w.cell? ⟨p, 0, none⟩ = some (.map (some b)) := by
    rw [List.getElem?_take] at hx
    split at hx
    · simpa [World.cell?, hh] using hx
    · cases hx
  obtain ⟨b', ob, e', hhb, ⟨ents, clock, rfl, hst, hsize, hent⟩, _⟩ := hs.obj m _ hm
  rw [hab] at e'; cases e'
  have hkeys : ents.toList.map keyL = es.map (fun q => q.1.data.toList) := by
    apply List.ext_getElem (by simpa using hsize)
    intro j h1 h2
    have h3 := hent j (by simpa using h2) (by simpa using h1)
    simp only [List.getElem_map, Array.getElem_toList, keyL, h3.1]
  have hks : ∀ x ∈ ents.toList, ∃ s : ByteArray, x.key = .string s ∧ s.size ≤ maxLen := fun x hx => by
    obtain ⟨j, hj, e⟩ := List.getElem_of_mem hx
    have hj2 : j < ents.size := by simpa using hj
    have hj3 : j < es.length := by omega
    have h3 := hent j hj3 hj2
    have hmx : (1000000 : Nat) ≤ maxLen := by decide
    refine ⟨es[j].1, by rw [← e]; simpa using h3.1, Nat.le_trans (hsz _ (List.mem_map.2 ⟨es[j], List.getElem_mem hj3, rfl⟩)) hmx⟩
  have hnd : (es.map (fun q => q.1.data.toList)).Nodup := by
    rw [← hkeys]
    have h3 : ents.toList.map (fun x => x.key) = (ents.toList.map keyL).map encStr := by
      rw [List.map_map]
      refine List.map_congr_left fun x hx => ?_
      obtain ⟨s, e, _⟩ := hks x hx
      simp [keyL, e, encStr]
    have h4 := hst.2.2
    rw [h3] at h4
    exact List.Pairwise.of_map encStr (fun a b h e => h (by rw [e])) h4
  refine (sorted_walk p b ents clock w hcell hhb hst hks (by omega)).mono ?_
  rintro _ w' ⟨v', ss, rfl, hperm, own, bel⟩
  rw [hkeys] at hperm
  have hmm : ∀ x, x ∈ ss ↔ x ∈ ns.map (·.data.toList) := fun x => by
    rw [hperm.mem_iff, List.mem_map, List.mem_map]
    constructor
    · rintro ⟨q, hq, rfl⟩; exact ⟨q.1, (hmem q.1).1 (List.mem_map.2 ⟨q, hq, rfl⟩), rfl⟩
    · rintro ⟨k, hk, rfl⟩
      obtain ⟨q, hq, rfl⟩ := List.mem_map.1 ((hmem k).2 hk)
      exact ⟨q, hq, rfl⟩
  have hko := keys_once (hperm.nodup_iff.2 hnd) hmm
  have hsl : ss.length = (onceS ns).length := by
    have := congrArg List.length hko
    rw [List.length_mergeSort] at this
    rw [this, onceS, List.length_map]
  rw [hko, onceS_cells, hsl] at own
  obtain ⟨G', g1, f1, s1, r1⟩ := row_of_own hs bel own (xs := (onceS ns).map encS) (by simp) (fun x hx => by obtain ⟨y, _, rfl⟩ := List.mem_map.1 hx; rfl) (by rw [flat_encS]; exact repL_strs G _)
  exact ⟨v', rfl, _, h, G', ⟨rfl, rfl⟩, g1, f1, s1, r1⟩
def IZ : Nat → LT → Prop
  | 0, _ => True
  | d + 1, .mk _ item _ _ kids _ => item.size ≤ 2 ∧ ∀ k ∈ kids, IZ d k
theorem IZ.dflt : ∀ d : Nat, IZ d default
  | 0 => trivial
  | d + 1 => show IZ (d + 1) (.mk 0 default 0 0 [] []) from ⟨Nat.zero_le _, fun k hk => (by cases hk)⟩
theorem iz_of : ∀ (d : Nat) (t : LT), KC d t → IZ d t
  | 0, _, _ => trivial
  | d + 1, .mk kind item long many kids shares, h => ⟨h.2.1, fun k hk => iz_of d k (h.2.2.2.2.2.2.2 k hk)⟩
theorem pass_item : ∀ (d : Nat) (t : LT) (s : PS), IZ d t → ∀ x ∈ (passU d t s).2, x.1.size ≤ 2
  | 0, _, _, _ => by simp [passU]
  | d + 1, .mk kind item long many kids shares, .mk p cs ks, hi => by
    rw [passU_succ]
    have hk : ∀ i, IZ d (kids.getD i default) := fun i => by
      by_cases h : i < kids.length
      · exact hi.2 _ (getD_mem' kids i default h)
      · rw [List.getD_eq_getElem?_getD, List.getElem?_eq_none (by omega)]; exact IZ.dflt d
    have key : ∀ (L : List Nat) (a : (List Int × List PS) × List (ByteArray × Int)), (∀ x ∈ a.2, x.1.size ≤ 2) → ∀ x ∈ (L.foldl (stepU (passU d) kids) a).2, x.1.size ≤ 2 := fun L => by
      induction L with
      | nil => intro a h; exact h
      | cons i L ih =>
        intro a h
        refine ih _ (fun x hx => ?_)
        rcases List.mem_append.1 hx with h9 | h9
        · exact h x h9
        · exact pass_item d _ _ (hk i) x h9
    refine key _ _ ?_
    split
    · intro x hx
      rw [List.mem_singleton.1 hx]
      exact hi.1
    · simp
theorem passes_item {d : Nat} {t : LT} (h : IZ d t) : ∀ n, ∀ x ∈ (passesU d t n).2, x.1.size ≤ 2
  | 0 => by simp [passesU]
  | n + 1 => fun x hx => by
    rcases List.mem_append.1 hx with h9 | h9
    · exact passes_item h n x h9
    · exact pass_item d t _ h x h9
structure GoodS (xs : List (ByteArray × Int)) : Prop where
  ne : xs ≠ []
  len : xs.length ≤ 5000
  pos : Pos xs
  item : ∀ x ∈ xs, x.1.size ≤ 2
theorem rd_good {d : Nat} {t : LT} (hb : KC d t) (h : rdE d t = 0) : GoodS (rdS d t) := by
  unfold rdE at h
  unfold rdS
  by_cases hf : faultF t = 0
  · rw [if_pos hf] at h ⊢
    have hp := part_of_fault hf
    have hv := vl_of d t hb hp
    refine ⟨fun e => ?_, roundS_len d t, roundS_long (il_of d t hp), fun x hx => ?_⟩
    · have := roundS_pos hv h
      rw [e] at this; simp at this
    · unfold roundS at hx
      split at hx
      · cases hx
      · exact passes_item (iz_of d t hb) _ x hx
  · rw [if_neg hf] at h; exact absurd h hf
theorem rd_bad2 {d : Nat} {t : LT} (h : rdE d t ≠ 0) : rdS d t = [] := (rd_bad h).1
theorem partsR_nil : partsR [] = [] := by simp [partsR, onceS, onceL, Lib.compact, Lib.compactUpTo]
abbrev pSCome3_22_9E : List Nat := [0, 1, 2, 3, 4, 5, 6, 7, 8, 9, 10, 12, 13, 14, 15, 16, 17, 18, 19]
abbrev pSCome3_22_9P : List (Nat × List Nat × List Nat) := [(11, [14, 17, 19], []), (20, [], [21, 22]), (23, [], []), (24, [], [])]
attribute [go_sem] pSCome3_22_9E pSCome3_22_9P
theorem ptrs_keys (f : ByteArray → Nat) (ks : List ByteArray) : (ptrsL f ks).map (·.1) = ks := by
  rw [ptrsL, List.map_map]
  exact List.map_id' ks
theorem part_bd {xs : List (ByteArray × Int)} (hg : GoodS xs) (k : ByteArray) : cntF xs k ≤ 5000 ∧ longF xs k = ((longF xs k).toNat : Int) ∧ (longF xs k).toNat ≤ 18000000000 ∧ sumL xs = ((sumL xs).toNat : Int) ∧ 1 ≤ (sumL xs).toNat ∧ (sumL xs).toNat ≤ 18000000000 ∧ 1 ≤ xs.length ∧ xs.length ≤ 5000 := by
  have h1 := cntF_le xs k
  have h2 := longF_bd hg.pos k
  have h3 := sumL_bd hg.pos
  have h4 := sumL_pos hg.pos hg.ne
  have h5 := hg.len
  have h6 := List.length_pos_iff.2 hg.ne
  omega
theorem g_Parts (d : Nat) (t : LT) (h : Hp) (hb : KC d t) (hd : manyF t ≤ 1000000000000000 ∧ d ≤ 1000) : ACalls Tryz.prog 22 [.agg (encL t)] h (fun r _ => r = .tup [.row 5 (partsR (rdS d t)) none, .v (.int .i64 (rdE d t))]) := by
  have hlen := encL_len t
  have htk : List.take 6 (encL t) = encL t := List.take_of_length_le (Nat.le_of_eq hlen)
  have hdk : List.drop 6 (encL t) = [] := List.drop_of_length_le (Nat.le_of_eq hlen)
  have hck := g_checked d t h hb hd
  unfold rdC at hck
  have hgood := fun he => rd_good (d := d) (t := t) hb he
  have hbad := fun he => rd_bad2 (d := d) (t := t) he
  generalize rdS d t = xs at *
  generalize rdN d t = n at *
  generalize rdE d t = e at *
  have hsl : (xs.map (·.2)).sum = sumL xs := rfl
  rw [hsl] at hck
  refine gE Tryz.func22 rfl (by kernel_rfl) 54 rfl fun c => ?_
  (repeat (first | refine gO (by decide) ?_ | ((first | refine gM (mdL [(4, 1)]) ?_ | (with_reducible refine wM ?_ ?_) | ((with_reducible refine xR ?_); refine uE 9 (mdL [(4, 1)]) pSCome3_22_9E pSCome3_22_9P 55 rfl (by kernel_rfl) ?_)) <;> ((try with_reducible intro K1 hK1); simp only [go_sem, ↓reduceIte, reduceCtorEq, nA, nB, nC, nD, nE, nF, hlen, htk, hdk] <;> and_intros <;> first | (apply hK1; clear hK1 K1) | (intros; first | omega | decide | (simp_all <;> omega)) | skip))))
  refine hck.mono ?_
  rintro _ h2 rfl
  refine hK1 _ ?_; clear hK1 K1
  (repeat (first | refine gO (by decide) ?_ | ((first | refine gM (mdL [(4, 1)]) ?_ | (with_reducible refine wM ?_ ?_) | ((with_reducible refine xR ?_); refine uE 9 (mdL [(4, 1)]) pSCome3_22_9E pSCome3_22_9P 55 rfl (by kernel_rfl) ?_)) <;> ((try with_reducible intro K1 hK1); simp only [go_sem, ↓reduceIte, reduceCtorEq, nA, nB, nC, nD, nE, nF] <;> and_intros <;> first | (apply hK1; clear hK1 K1) | (intros; first | omega | decide | (simp_all <;> omega)) | skip))))
  by_cases he : e = 0
  · subst he
    have hg := hgood rfl
    clear hgood hbad hck
    refine awp_cond (t := _) rfl (fun h9 => by simp at h9) (fun _ => ?_)
    (repeat (first | refine gO (by decide) ?_ | ((first | refine gM (mdL [(4, 1)]) ?_ | (with_reducible refine wM ?_ ?_) | ((with_reducible refine xR ?_); refine uE 9 (mdL [(4, 1)]) pSCome3_22_9E pSCome3_22_9P 55 rfl (by kernel_rfl) ?_)) <;> ((try with_reducible intro K1 hK1); simp only [go_sem, ↓reduceIte, reduceCtorEq, nA, nB, nC, nD, nE, nF] <;> and_intros <;> first | (apply hK1; clear hK1 K1) | (intros; first | omega | decide | (simp_all <;> omega)) | skip))))
    refine (g_tallies xs h2 hg.pos hg.len).mono ?_
    rintro _ h3 ⟨m, ks, f, rfl, hT⟩
    refine hK1 _ ?_; clear hK1 K1
    (repeat (first | refine gQ (by decide) ?_ | ((first | refine gM (mdL [(4, 1)]) ?_ | (with_reducible refine wM ?_ ?_) | ((with_reducible refine xR ?_); refine uE 9 (mdL [(4, 1)]) pSCome3_22_9E pSCome3_22_9P 55 rfl (by kernel_rfl) ?_)) <;> ((try with_reducible intro K1 hK1); simp only [go_sem, ↓reduceIte, reduceCtorEq, nA, nB, nC, nD, nE, nF] <;> and_intros <;> first | (apply hK1; clear hK1 K1) | (intros; first | omega | decide | (simp_all <;> omega)) | skip))))
    refine awp_seq ?_
    refine awp_own 7 5 rfl ⟨rfl, rfl⟩ (fun kk hkk => ?_)
    replace hkk : h3.T kk = none := hkk
    (repeat (first | refine gO (by decide) ?_ | ((first | refine gM (mdL [(4, 1)]) ?_ | (with_reducible refine wM ?_ ?_) | ((with_reducible refine xR ?_); refine uE 9 (mdL [(4, 1)]) pSCome3_22_9E pSCome3_22_9P 55 rfl (by kernel_rfl) ?_)) <;> ((try with_reducible intro K1 hK1); simp only [go_sem, ↓reduceIte, reduceCtorEq, nA, nB, nC, nD, nE, nF] <;> and_intros <;> first | (apply hK1; clear hK1 K1) | (intros; first | omega | decide | (simp_all <;> omega)) | skip))))
    refine (g_keys m _).mono ?_
    rintro _ _ ⟨i, hi, rfl, rfl⟩
    replace hi : h3.H i = none := hi
    have hmi : m ≠ i := fun e => by rw [← e, hT.map] at hi; cases hi
    refine hK1 _ ?_; clear hK1 K1
    (repeat (first | refine gO (by decide) ?_ | ((first | refine gM (mdL [(4, 1)]) ?_ | (with_reducible refine wM ?_ ?_) | ((with_reducible refine xR ?_); refine uE 9 (mdL [(4, 1)]) pSCome3_22_9E pSCome3_22_9P 55 rfl (by kernel_rfl) ?_)) <;> ((try with_reducible intro K1 hK1); simp only [go_sem, ↓reduceIte, reduceCtorEq, nA, nB, nC, nD, nE, nF] <;> and_intros <;> first | (apply hK1; clear hK1 K1) | (intros; first | omega | decide | (simp_all <;> omega)) | skip))))
    refine (g_sorted i m (ptrsL f ks) (xs.map (·.1)) _ (upd_same _ _ _) ?_ ?_ ?_ ?_).mono ?_
    · show upd h3.H i _ m = _
      rw [upd_other _ _ hmi]; exact hT.map
    · rw [ptrs_keys]; exact hT.mem
    · rw [ptrs_keys]
      intro k hk
      obtain ⟨x, hx, rfl⟩ := List.mem_map.1 ((hT.mem k).1 hk)
      have := hg.item x hx; omega
    · have h9 := nodup_len ks (xs.map (·.1)) hT.nd fun k hk => (hT.mem k).1 hk
      have := hg.len
      simp only [List.length_map] at h9
      simp only [ptrsL, List.length_map]; omega
    rintro _ hz ⟨rfl, hh⟩; apply hK1; clear hK1 K1; rw [hh]; clear hh hz
    have hol := onceS_len (xs.map (·.1))
    have hom := fun k => onceS_mem (xs.map (·.1)) k
    rw [List.length_map] at hol
    have hpr : partsR xs = (onceS (xs.map (·.1))).map (encPn xs) := rfl
    rw [hpr]
    generalize onceS (xs.map (·.1)) = N at *
    have hgl := hg.len
    (repeat (first | refine gO (by decide) ?_ | ((first | refine gM (mdL [(4, 1)]) ?_ | (with_reducible refine wM ?_ ?_) | ((with_reducible refine xR ?_); refine uE 9 (mdL [(4, 1)]) pSCome3_22_9E pSCome3_22_9P 55 rfl (by kernel_rfl) ?_)) <;> ((try with_reducible intro K1 hK1); simp only [go_sem, ↓reduceIte, reduceCtorEq, nA, nB, nC, nD, nE, nF] <;> and_intros <;> first | (apply hK1; clear hK1 K1) | (intros; first | omega | decide | (simp_all <;> omega)) | skip))))
    refine awp_loopC (rl false [4, 1, 1, 2, 15, 3, 29]) 1 (fun g s => ∃ j : Nat, g + j = N.length ∧
      s = ⟨((jnk 4 ((.loc 0 0) :: AV.junk :: ((.map m) :: (.row 5 ((N.map (encPn xs)).take j) (some kk)) :: (jnk 15 ((.row 1 (N.map encS) none) :: (.v (.int .i64 N.length)) :: (.v (.int .i64 j)) :: (jnk 29 []))))))),
        [[.v (.int .i64 n), .row 2 (xs.map encStep) none, .v (.int .i64 (sumL xs))]], ⟨upd h3.H i (some (.cells [.map m])), upd h3.T kk (some (.tail j))⟩⟩) N.length ⟨0, by omega, rfl⟩ ?_
    rintro g _ ⟨j, hj, rfl⟩
    have hTq : upd h3.T kk (some (TO.tail j)) kk = some (.tail j) := upd_same _ _ _
    have hlj : ((N.map (encPn xs)).take j).length = j := by simp; omega
    (repeat (first | refine gO (by decide) ?_ | ((first | refine gM (mdL [(4, 1)]) ?_ | (with_reducible refine wM ?_ ?_) | ((with_reducible refine xR ?_); refine uE 9 (mdL [(4, 1)]) pSCome3_22_9E pSCome3_22_9P 55 rfl (by kernel_rfl) ?_)) <;> ((try with_reducible intro K1 hK1); simp only [go_sem, ↓reduceIte, reduceCtorEq, nA, nB, nC, nD, nE, nF] <;> and_intros <;> first | (apply hK1; clear hK1 K1) | (intros; first | omega | decide | (simp_all <;> omega)) | skip))))
    refine awp_cond (t := _) rfl (fun h1 => ?_) (fun h1 => ?_)
    · simp only [decide_eq_true_eq] at h1
      have hjl : j < N.length := by omega
      have gx : (N.map encS).getD j [] = encS (N.getD j default) := getD_enc encS N j default hjl
      have tx : (N.map (encPn xs)).take (j + 1) = (N.map (encPn xs)).take j ++ [encPn xs (N.getD j default)] := by
        rw [List.take_add_one, List.getElem?_map, List.getElem?_eq_getElem hjl, List.getD_eq_getElem?_getD, List.getElem?_eq_getElem hjl]; rfl
      have hk : N.getD j default ∈ ks := (hT.mem _).2 ((hom _).1 (getD_mem' N j default hjl))
      generalize N.getD j default = k at gx tx hk
      have hM : upd h3.H i (some (AO.cells [.map m])) m = some (.map (ptrsL f ks)) := by rw [upd_other _ _ hmi]; exact hT.map
      have hG := (mget_ptrs f ks k).1 hk
      have hfi : f k ≠ i := fun e => by have := hT.cell k hk; rw [e, hi] at this; cases this
      have hC : upd h3.H i (some (AO.cells [.map m])) (f k) = some (.cells (tCell xs k)) := by rw [upd_other _ _ hfi]; exact hT.cell k hk
      obtain ⟨b1, b2, b3, b4, b5, b6, b7, b8⟩ := part_bd hg k
      have hl1 := fun h => g_lowP (cntF xs k) xs.length h (by omega) (by omega)
      have hl2 := fun h => g_lowP (longF xs k).toNat (sumL xs).toNat h (by omega) (by omega)
      rw [← b2, ← b4] at hl2
      clear b2 b4
      rw [tCell] at hC
      have hle : encPn xs k = .v (.string k) :: (lowF (cntF xs k) xs.length ++ lowF (longF xs k).toNat (sumL xs).toNat) := rfl
      rw [hle] at tx
      obtain ⟨p1, q1, hf1⟩ : ∃ p q : Int, lowF (cntF xs k) xs.length = [.v (.int .i64 p), .v (.int .i64 q)] := ⟨_, _, rfl⟩
      obtain ⟨p2, q2, hf2⟩ : ∃ p q : Int, lowF (longF xs k).toNat (sumL xs).toNat = [.v (.int .i64 p), .v (.int .i64 q)] := ⟨_, _, rfl⟩
      rw [hf1] at tx hl1
      rw [hf2] at tx hl2
      clear hf1 hf2 hle
      generalize cntF xs k = cn at *
      generalize longF xs k = lg at *
      generalize sumL xs = S at *
      (repeat (first | refine gO (by decide) ?_ | ((first | refine gM (mdL [(4, 1)]) ?_ | (with_reducible refine wM ?_ ?_) | ((with_reducible refine xR ?_); refine uE 9 (mdL [(4, 1)]) pSCome3_22_9E pSCome3_22_9P 55 rfl (by kernel_rfl) ?_)) <;> ((try with_reducible intro K1 hK1); simp only [go_sem, ↓reduceIte, reduceCtorEq, nA, nB, nC, nD, nE, nF, Int.toNat_natCast, gx, encS, hM, hG, hC, hTq, hlj] <;> and_intros <;> first | (apply hK1; clear hK1 K1) | (intros; first | omega | decide | (simp_all <;> omega)) | skip))))
      refine (hl1 _).mono ?_; rintro _ hz ⟨rfl, hh⟩; apply hK1; clear hK1 K1; rw [hh]; clear hh hz
      (repeat (first | refine gO (by decide) ?_ | ((first | refine gM (mdL [(4, 1)]) ?_ | (with_reducible refine wM ?_ ?_) | ((with_reducible refine xR ?_); refine uE 9 (mdL [(4, 1)]) pSCome3_22_9E pSCome3_22_9P 55 rfl (by kernel_rfl) ?_)) <;> ((try with_reducible intro K1 hK1); simp only [go_sem, ↓reduceIte, reduceCtorEq, nA, nB, nC, nD, nE, nF, Int.toNat_natCast, gx, encS, hM, hG, hC, hTq, hlj] <;> and_intros <;> first | (apply hK1; clear hK1 K1) | (intros; first | omega | decide | (simp_all <;> omega)) | skip))))
      refine (hl2 _).mono ?_; rintro _ hz ⟨rfl, hh⟩; apply hK1; clear hK1 K1; rw [hh]; clear hh hz
      (repeat (first | refine gO (by decide) ?_ | ((first | refine gM (mdL [(4, 1)]) ?_ | (with_reducible refine wM ?_ ?_) | ((with_reducible refine xR ?_); refine uE 9 (mdL [(4, 1)]) pSCome3_22_9E pSCome3_22_9P 55 rfl (by kernel_rfl) ?_)) <;> ((try with_reducible intro K1 hK1); simp only [go_sem, ↓reduceIte, reduceCtorEq, nA, nB, nC, nD, nE, nF, Int.toNat_natCast, gx, encS, hM, hG, hC, hTq, hlj] <;> and_intros <;> first | (apply hK1; clear hK1 K1) | (intros; first | omega | decide | (simp_all <;> omega)) | skip))))
      exact ⟨g - 1, by omega, j + 1, by omega, by rw [tx]; rfl⟩
    · simp only [decide_eq_false_iff_not] at h1
      have hjl : j = N.length := by omega
      subst hjl
      rw [show (N.map (encPn xs)).take N.length = N.map (encPn xs) from List.take_of_length_le (by simp)] at *
      (repeat (first | refine gO (by decide) ?_ | ((first | refine gM (mdL [(4, 1)]) ?_ | (with_reducible refine wM ?_ ?_) | ((with_reducible refine xR ?_); refine uE 9 (mdL [(4, 1)]) pSCome3_22_9E pSCome3_22_9P 55 rfl (by kernel_rfl) ?_)) <;> ((try with_reducible intro K1 hK1); simp only [go_sem, ↓reduceIte, reduceCtorEq, nA, nB, nC, nD, nE, nF] <;> and_intros <;> first | (apply hK1; clear hK1 K1) | (intros; first | omega | decide | (simp_all <;> omega)) | skip))))
      simp only [Tryz.results22, go_sem, ↓reduceIte, reduceCtorEq, nA, nB, nC, nD, nE, nF]
      exact ⟨_, _, Weak.tup1 (Weak.row _ _ _) (Weak.refl _), Hp.le.refl _, rfl⟩
  · rw [hbad he] at *
    rw [partsR_nil]
    refine awp_cond (t := _) rfl (fun _ => ?_) (fun h9 => by simp [he] at h9)
    (repeat (first | refine gO (by decide) ?_ | ((first | refine gM (mdL [(4, 1)]) ?_ | (with_reducible refine wM ?_ ?_) | ((with_reducible refine xR ?_); refine uE 9 (mdL [(4, 1)]) pSCome3_22_9E pSCome3_22_9P 55 rfl (by kernel_rfl) ?_)) <;> ((try with_reducible intro K1 hK1); simp only [go_sem, ↓reduceIte, reduceCtorEq, nA, nB, nC, nD, nE, nF] <;> and_intros <;> first | (apply hK1; clear hK1 K1) | (intros; first | omega | decide | (simp_all <;> omega)) | skip))))
    simp only [Tryz.results22, go_sem, ↓reduceIte, reduceCtorEq, nA, nB, nC, nD, nE, nF]
    exact ⟨_, _, Weak.tup1 (Weak.nil 5 0 0 ⟨rfl, rfl⟩) (Weak.refl _), Hp.le.refl _, rfl⟩
theorem g_portionsOf (xs : List (ByteArray × Int)) (h : Hp) (hg : GoodS xs) : ACalls Tryz.prog 24 [.row 2 (xs.map encStep) none] h (fun r _ => r = .row 5 (partsR xs) none) := by
  have hgl := hg.len
  have hgn := List.length_pos_iff.2 hg.ne
  refine gE Tryz.func24 rfl (by kernel_rfl) 61 rfl fun c => ?_
  (repeat (first | refine gQ (by decide) ?_ | (refine gM (mdL [(6, 1), (12, 1)]) fun K1 hK1 => ?_; simp only [go_sem, ↓reduceIte, reduceCtorEq, nA, nB, nC, nD, nE, nF] <;> and_intros <;> first | (apply hK1; clear hK1 K1) | (intros; first | omega | decide | (simp_all <;> omega)) | skip)))
  refine awp_seq ?_
  refine awp_own 3 5 rfl ⟨rfl, rfl⟩ (fun kk hkk => ?_)
  replace hkk : h.T kk = none := hkk
  (repeat (first | refine gO (by decide) ?_ | (refine gM (mdL [(6, 1), (12, 1)]) fun K1 hK1 => ?_; simp only [go_sem, ↓reduceIte, reduceCtorEq, nA, nB, nC, nD, nE, nF] <;> and_intros <;> first | (apply hK1; clear hK1 K1) | (intros; first | omega | decide | (simp_all <;> omega)) | skip)))
  refine awp_loopC (rl false [0, 1, 2, 2, 8, 3, 46]) 0 (fun g s => ∃ j : Nat, g + j = xs.length ∧
    s = ⟨((.row 2 (xs.map encStep) none) :: AV.junk :: AV.junk :: ((.row 5 [] (some kk)) :: (.v (.int .i64 (preL xs j))) :: (jnk 8 ((.row 2 (xs.map encStep) none) :: (.v (.int .i64 xs.length)) :: (.v (.int .i64 j)) :: (jnk 46 []))))), [], ⟨h.H, upd h.T kk (some (.tail 0))⟩⟩) xs.length ⟨0, by omega, rfl⟩ ?_
  rintro g _ ⟨j, hj, rfl⟩
  have hpb := preL_bd hg.pos j (by omega)
  (repeat (first | refine gO (by decide) ?_ | (refine gM (mdL [(6, 1), (12, 1)]) fun K1 hK1 => ?_; simp only [go_sem, ↓reduceIte, reduceCtorEq, nA, nB, nC, nD, nE, nF] <;> and_intros <;> first | (apply hK1; clear hK1 K1) | (intros; first | omega | decide | (simp_all <;> omega)) | skip)))
  refine awp_cond (t := _) rfl (fun h1 => ?_) (fun h1 => ?_)
  · simp only [decide_eq_true_eq] at h1
    have hjl : j < xs.length := by omega
    have gx : (xs.map encStep).getD j [] = encStep (xs.getD j default) := getD_enc encStep xs j default hjl
    have hpa := pos_at hg.pos hjl
    have hps := preL_succ xs j hjl
    generalize xs.getD j default = x at gx hpa hps
    (repeat (first | refine gO (by decide) ?_ | (refine gM (mdL [(6, 1), (12, 1)]) fun K1 hK1 => ?_; simp only [go_sem, ↓reduceIte, reduceCtorEq, nA, nB, nC, nD, nE, nF, Int.toNat_natCast, gx, encStep] <;> and_intros <;> first | (apply hK1; clear hK1 K1) | (intros; first | omega | decide | (simp_all <;> omega)) | skip)))
    exact ⟨g - 1, by omega, j + 1, by omega, by rw [hps]; rfl⟩
  · simp only [decide_eq_false_iff_not] at h1
    have hjl : j = xs.length := by omega
    subst hjl
    rw [preL_all] at *
    (repeat (first | refine gO (by decide) ?_ | (refine gM (mdL [(6, 1), (12, 1)]) fun K1 hK1 => ?_; simp only [go_sem, ↓reduceIte, reduceCtorEq, nA, nB, nC, nD, nE, nF] <;> and_intros <;> first | (apply hK1; clear hK1 K1) | (intros; first | omega | decide | (simp_all <;> omega)) | skip)))
    refine (g_itemsOf xs _ hgn hgl).mono ?_
    rintro _ h2 ⟨rfl, hle⟩
    have hT2 : h2.T kk = some (.tail 0) := by
      rcases hle.T kk with e | e
      · replace e : upd h.T kk (some (TO.tail 0)) kk = none := e
        rw [upd_same] at e; cases e
      · rw [← e]; exact upd_same _ _ _
    refine hK1 _ ?_; clear hK1 K1
    have hol := onceS_len (xs.map (·.1))
    rw [List.length_map] at hol
    have hpr : partsR xs = (onceS (xs.map (·.1))).map (encPn xs) := rfl
    rw [hpr]
    generalize onceS (xs.map (·.1)) = N at *
    clear g hj h1
    (repeat (first | refine gO (by decide) ?_ | (refine gM (mdL [(6, 1), (12, 1)]) fun K1 hK1 => ?_; simp only [go_sem, ↓reduceIte, reduceCtorEq, nA, nB, nC, nD, nE, nF] <;> and_intros <;> first | (apply hK1; clear hK1 K1) | (intros; first | omega | decide | (simp_all <;> omega)) | skip)))
    refine awp_loopC (rl false [0, 1, 2, 2, 20, 3, 34]) 0 (fun g s => ∃ (j : Nat) (h3 : Hp), g + j = N.length ∧ h3.T kk = some (.tail j) ∧
      s = ⟨((.row 2 (xs.map encStep) none) :: AV.junk :: AV.junk :: ((.row 5 ((N.map (encPn xs)).take j) (some kk)) :: (.v (.int .i64 (sumL xs))) :: (jnk 20 ((.row 1 (N.map encS) none) :: (.v (.int .i64 N.length)) :: (.v (.int .i64 j)) :: (jnk 34 []))))), [], h3⟩) N.length ⟨0, h2, by omega, hT2, rfl⟩ ?_
    rintro g _ ⟨j, h3, hj, hT3, rfl⟩
    have hlj : ((N.map (encPn xs)).take j).length = j := by simp; omega
    (repeat (first | refine gO (by decide) ?_ | (refine gM (mdL [(6, 1), (12, 1)]) fun K1 hK1 => ?_; simp only [go_sem, ↓reduceIte, reduceCtorEq, nA, nB, nC, nD, nE, nF] <;> and_intros <;> first | (apply hK1; clear hK1 K1) | (intros; first | omega | decide | (simp_all <;> omega)) | skip)))
    refine awp_cond (t := _) rfl (fun h1 => ?_) (fun h1 => ?_)
    · simp only [decide_eq_true_eq] at h1
      have hjl : j < N.length := by omega
      have gx : (N.map encS).getD j [] = encS (N.getD j default) := getD_enc encS N j default hjl
      have tx : (N.map (encPn xs)).take (j + 1) = (N.map (encPn xs)).take j ++ [encPn xs (N.getD j default)] := by
        rw [List.take_add_one, List.getElem?_map, List.getElem?_eq_getElem hjl, List.getD_eq_getElem?_getD, List.getElem?_eq_getElem hjl]; rfl
      generalize N.getD j default = k at gx tx
      (repeat (first | refine gQ (by decide) ?_ | (refine gM (mdL [(6, 1), (12, 1)]) fun K1 hK1 => ?_; simp only [go_sem, ↓reduceIte, reduceCtorEq, nA, nB, nC, nD, nE, nF, Int.toNat_natCast, gx, encS] <;> and_intros <;> first | (apply hK1; clear hK1 K1) | (intros; first | omega | decide | (simp_all <;> omega)) | skip)))
      refine awp_seq ?_
      refine awp_block ?_
      (repeat (first | refine gQ (by decide) ?_ | (refine gM (mdL [(6, 1), (12, 1)]) fun K1 hK1 => ?_; simp only [go_sem, ↓reduceIte, reduceCtorEq, nA, nB, nC, nD, nE, nF, Int.toNat_natCast, gx, encS] <;> and_intros <;> first | (apply hK1; clear hK1 K1) | (intros; first | omega | decide | (simp_all <;> omega)) | skip)))
      refine awp_seq ?_
      (repeat (first | refine gO (by decide) ?_ | (refine gM (mdL [(6, 1), (12, 1)]) fun K1 hK1 => ?_; simp only [go_sem, ↓reduceIte, reduceCtorEq, nA, nB, nC, nD, nE, nF, Int.toNat_natCast, gx, encS] <;> and_intros <;> first | (apply hK1; clear hK1 K1) | (intros; first | omega | decide | (simp_all <;> omega)) | skip)))
      refine awp_loopC (rl false [0, 1, 2, 2, 3, 3, 14, 3, 3, 3, 28]) 0 (fun g2 s => ∃ i : Nat, g2 + i = xs.length ∧
        s = ⟨((.row 2 (xs.map encStep) none) :: AV.junk :: AV.junk :: ((.row 5 ((N.map (encPn xs)).take j) (some kk)) :: (.v (.int .i64 (sumL xs))) :: (jnk 3 ((.v (.string k)) :: (.v (.int .i64 (cntF (xs.take i) k))) :: (.v (.int .i64 (longF (xs.take i) k))) :: (jnk 14 ((.row 1 (N.map encS) none) :: (.v (.int .i64 N.length)) :: (.v (.int .i64 j)) :: (jnk 3 ((.row 2 (xs.map encStep) none) :: (.v (.int .i64 xs.length)) :: (.v (.int .i64 i)) :: (jnk 28 []))))))))), [], h3⟩) xs.length ⟨0, by omega, rfl⟩ ?_
      rintro g2 _ ⟨i, hi, rfl⟩
      (repeat (first | refine gO (by decide) ?_ | (refine gM (mdL [(6, 1), (12, 1)]) fun K1 hK1 => ?_; simp only [go_sem, ↓reduceIte, reduceCtorEq, nA, nB, nC, nD, nE, nF] <;> and_intros <;> first | (apply hK1; clear hK1 K1) | (intros; first | omega | decide | (simp_all <;> omega)) | skip)))
      refine awp_cond (t := _) rfl (fun h5 => ?_) (fun h5 => ?_)
      · simp only [decide_eq_true_eq] at h5
        have hil : i < xs.length := by omega
        have gy : (xs.map encStep).getD i [] = encStep (xs.getD i default) := getD_enc encStep xs i default hil
        have hya := pos_at hg.pos hil
        have hcl := cntF_le (xs.take i) k
        have hlt : (xs.take i).length = i := by rw [List.length_take]; omega
        have hlb := longF_bd (xs := xs.take i) (fun x hx => hg.pos x (List.mem_of_mem_take hx)) k
        rw [hlt] at hcl hlb
        have hcy := fun e => cntF_yes (xs := xs) hil (k := k) e
        have hcn := fun e => cntF_no (xs := xs) hil (k := k) e
        have hly := fun e => longF_yes (xs := xs) hil (k := k) e
        have hln := fun e => longF_no (xs := xs) hil (k := k) e
        have hbq : ((xs.getD i default).1 == k) = decide ((xs.getD i default).1 = k) := ba_beq _ _
        generalize xs.getD i default = y at gy hya hcy hcn hly hln hbq
        generalize cntF (xs.take i) k = cn at *
        generalize longF (xs.take i) k = lg at *
        (repeat (first | refine gO (by decide) ?_ | (refine gM (mdL [(6, 1), (12, 1)]) fun K1 hK1 => ?_; simp only [go_sem, ↓reduceIte, reduceCtorEq, nA, nB, nC, nD, nE, nF, Int.toNat_natCast, gy, encStep] <;> and_intros <;> first | (apply hK1; clear hK1 K1) | (intros; first | omega | decide | (simp_all <;> omega)) | skip)))
        refine awp_cond (t := _) rfl (fun h6 => ?_) (fun h6 => ?_)
        · rw [hbq, decide_eq_true_eq] at h6
          (repeat (first | refine gO (by decide) ?_ | (refine gM (mdL [(6, 1), (12, 1)]) fun K1 hK1 => ?_; simp only [go_sem, ↓reduceIte, reduceCtorEq, nA, nB, nC, nD, nE, nF] <;> and_intros <;> first | (apply hK1; clear hK1 K1) | (intros; first | omega | decide | (simp_all <;> omega)) | skip)))
          exact ⟨g2 - 1, by omega, i + 1, by omega, by rw [hcy h6, hly h6]; rfl⟩
        · rw [hbq, decide_eq_false_iff_not] at h6
          (repeat (first | refine gO (by decide) ?_ | (refine gM (mdL [(6, 1), (12, 1)]) fun K1 hK1 => ?_; simp only [go_sem, ↓reduceIte, reduceCtorEq, nA, nB, nC, nD, nE, nF] <;> and_intros <;> first | (apply hK1; clear hK1 K1) | (intros; first | omega | decide | (simp_all <;> omega)) | skip)))
          exact ⟨g2 - 1, by omega, i + 1, by omega, by rw [hcn h6, hln h6]; rfl⟩
      · simp only [decide_eq_false_iff_not] at h5
        have hil : i = xs.length := by omega
        subst hil
        rw [List.take_length] at *
        obtain ⟨b1, b2, b3, b4, b5, b6, b7, b8⟩ := part_bd hg k
        have hl1 := fun h => g_lowR (cntF xs k) xs.length h (by omega) (by omega)
        have hl2 := fun h => g_lowR (longF xs k).toNat (sumL xs).toNat h (by omega) (by omega)
        rw [← b2, ← b4] at hl2
        clear b2 b4
        have hle : encPn xs k = .v (.string k) :: (lowF (cntF xs k) xs.length ++ lowF (longF xs k).toNat (sumL xs).toNat) := rfl
        rw [hle] at tx
        obtain ⟨p1, q1, hf1⟩ : ∃ p q : Int, lowF (cntF xs k) xs.length = [.v (.int .i64 p), .v (.int .i64 q)] := ⟨_, _, rfl⟩
        obtain ⟨p2, q2, hf2⟩ : ∃ p q : Int, lowF (longF xs k).toNat (sumL xs).toNat = [.v (.int .i64 p), .v (.int .i64 q)] := ⟨_, _, rfl⟩
        rw [hf1] at tx hl1
        rw [hf2] at tx hl2
        clear hf1 hf2 hle
        generalize cntF xs k = cn at *
        generalize longF xs k = lg at *
        (repeat (first | refine gO (by decide) ?_ | (refine gM (mdL [(6, 1), (12, 1)]) fun K1 hK1 => ?_; simp only [go_sem, ↓reduceIte, reduceCtorEq, nA, nB, nC, nD, nE, nF, hT3, hlj] <;> and_intros <;> first | (apply hK1; clear hK1 K1) | (intros; first | omega | decide | (simp_all <;> omega)) | skip)))
        refine (hl1 _).mono ?_; rintro _ hz ⟨rfl, hh⟩; apply hK1; clear hK1 K1; rw [hh]; clear hh hz
        (repeat (first | refine gO (by decide) ?_ | (refine gM (mdL [(6, 1), (12, 1)]) fun K1 hK1 => ?_; simp only [go_sem, ↓reduceIte, reduceCtorEq, nA, nB, nC, nD, nE, nF, hT3, hlj] <;> and_intros <;> first | (apply hK1; clear hK1 K1) | (intros; first | omega | decide | (simp_all <;> omega)) | skip)))
        refine (hl2 _).mono ?_; rintro _ hz ⟨rfl, hh⟩; apply hK1; clear hK1 K1; rw [hh]; clear hh hz
        (repeat (first | refine gO (by decide) ?_ | (refine gM (mdL [(6, 1), (12, 1)]) fun K1 hK1 => ?_; simp only [go_sem, ↓reduceIte, reduceCtorEq, nA, nB, nC, nD, nE, nF, hT3, hlj] <;> and_intros <;> first | (apply hK1; clear hK1 K1) | (intros; first | omega | decide | (simp_all <;> omega)) | skip)))
        exact ⟨g - 1, by omega, j + 1, _, by omega, upd_same _ _ _, by rw [tx]; rfl⟩
    · simp only [decide_eq_false_iff_not] at h1
      have hjl : j = N.length := by omega
      subst hjl
      rw [show (N.map (encPn xs)).take N.length = N.map (encPn xs) from List.take_of_length_le (by simp)] at *
      (repeat (first | refine gO (by decide) ?_ | (refine gM (mdL [(6, 1), (12, 1)]) fun K1 hK1 => ?_; simp only [go_sem, ↓reduceIte, reduceCtorEq, nA, nB, nC, nD, nE, nF] <;> and_intros <;> first | (apply hK1; clear hK1 K1) | (intros; first | omega | decide | (simp_all <;> omega)) | skip)))
      simp only [Tryz.results24, go_sem, ↓reduceIte, reduceCtorEq, nA, nB, nC, nD, nE, nF]
      exact ⟨_, _, Weak.row _ _ _, Hp.le.refl _, rfl⟩
def momB (n : Int) : Bool := decide (0 ≤ n) && decide (n < 345686400000)
def timeE (a b : Int) : Int := if (!momB a || !momB b) = true then 1 else if decide (b < a) = true then 7 else 0
theorem timeE_zero {a b : Int} (h : timeE a b = 0) : 0 ≤ a ∧ a ≤ b ∧ b < 345686400000 := by
  unfold timeE at h
  split at h
  · cases h
  · rename_i h1
    split at h
    · cases h
    · rename_i h2
      simp only [momB, Bool.or_eq_true, Bool.not_eq_true', Bool.and_eq_false_iff, decide_eq_false_iff_not, not_or] at h1
      simp only [decide_eq_true_eq] at h2
      omega
def baseT (xs : List (ByteArray × Int)) (a b : Int) : Int := b - (b - a).tmod (sumL xs)
theorem rest_bd {xs : List (ByteArray × Int)} (hp : Pos xs) (hn : xs ≠ []) {a b : Int} (h : a ≤ b) : 0 ≤ (b - a).tmod (sumL xs) ∧ (b - a).tmod (sumL xs) < sumL xs := by
  have hs := sumL_pos hp hn
  exact ⟨Int.tmod_nonneg _ (by omega), Int.tmod_lt_of_pos _ (by omega)⟩
theorem base_q {xs : List (ByteArray × Int)} (a b : Int) : baseT xs a b - a = sumL xs * ((b - a).tdiv (sumL xs)) := by
  have := Int.mul_tdiv_add_tmod (b - a) (sumL xs)
  unfold baseT; omega
theorem base_le {xs : List (ByteArray × Int)} (hp : Pos xs) (hn : xs ≠ []) {a b : Int} (h : a ≤ b) : a ≤ baseT xs a b ∧ baseT xs a b ≤ b ∧ b < baseT xs a b + sumL xs := by
  have hr := rest_bd hp hn h
  have hs := sumL_pos hp hn
  have hq := base_q (xs := xs) a b
  have h0 : 0 ≤ (b - a).tdiv (sumL xs) := Int.tdiv_nonneg (by omega) (by omega)
  have h1 : 0 ≤ sumL xs * ((b - a).tdiv (sumL xs)) := Int.mul_nonneg (by omega) h0
  unfold baseT at *
  omega
theorem step_at {xs : List (ByteArray × Int)} (hp : Pos xs) (hn : xs ≠ []) {a b x : Int} (h : a ≤ b) {j : Nat} (h1 : begT xs (baseT xs a b) j ≤ x) (h2 : x < begT xs (baseT xs a b) (j + 1)) :
    posF xs ((x - a).tmod (sumL xs)) = j % xs.length ∧ x - (x - a).tmod (sumL xs) + preL xs (j % xs.length) = begT xs (baseT xs a b) j := by
  have hl := List.length_pos_iff.2 hn
  have hm := Nat.mod_lt j hl
  have hs := sumL_pos hp hn
  have hq := base_q (xs := xs) a b
  have hb := base_le hp hn h
  rw [begT_succ xs _ j hn] at h2
  have hps := preL_succ xs (j % xs.length) hm
  have hpn := preL_nonneg hp (j % xs.length)
  have hpl := preL_mono hp (i := j % xs.length + 1) (j := xs.length) (by omega) (Nat.le_refl _)
  rw [preL_all] at hpl
  unfold begT at h1 h2 ⊢
  generalize (b - a).tdiv (sumL xs) = q at hq
  have hr0 : 0 ≤ ((j / xs.length : Nat) : Int) * sumL xs := Int.mul_nonneg (Int.natCast_nonneg _) (by omega)
  have e : (x - a).tmod (sumL xs) = x - baseT xs a b - (j / xs.length : Nat) * sumL xs := by
    have e1 : x - a = (x - baseT xs a b - (j / xs.length : Nat) * sumL xs) + sumL xs * (q + (j / xs.length : Nat)) := by
      rw [Int.mul_add, ← hq, Int.mul_comm (sumL xs)]; omega
    rw [Int.tmod_eq_emod_of_nonneg (by omega), e1, Int.add_mul_emod_self_left, Int.emod_eq_of_lt (by omega) (by omega)]
  rw [e]
  exact ⟨posF_of hp hm (by omega) (by omega), by omega⟩
theorem first_at {xs : List (ByteArray × Int)} (hp : Pos xs) (hn : xs ≠ []) {a b : Int} (h : a ≤ b) : ∃ j, j < xs.length ∧ begT xs (baseT xs a b) j ≤ b ∧ b < begT xs (baseT xs a b) (j + 1) := by
  have hr := rest_bd hp hn h
  obtain ⟨q1, q2, q3⟩ := posF_ex hp hr.1 hr.2
  generalize posF xs ((b - a).tmod (sumL xs)) = i at q1 q2 q3
  refine ⟨i, q1, ?_⟩
  have e := begT_at xs (baseT xs a b) 0 i q1
  rw [Nat.zero_mul, Nat.zero_add] at e
  rw [begT_succ xs _ i hn, e, Nat.mod_eq_of_lt q1]
  rw [preL_succ xs i q1] at q3
  simp only [Int.natCast_zero, Int.zero_mul]
  unfold baseT
  omega
theorem no_hit_before {xs : List (ByteArray × Int)} (hp : Pos xs) (hn : xs ≠ []) {bs b : Int} {j : Nat} (h1 : begT xs bs j ≤ b) (item : ByteArray) : ∀ i, i < j → Hit xs bs b item i = false := fun i hi => by
  have h2 := begT_mono hp hn bs (show i + 1 ≤ j by omega)
  rw [begT_succ xs bs i hn] at h2
  have h3 := pos_at hp (Nat.mod_lt i (List.length_pos_iff.2 hn))
  have h4 : decide (b ≤ begT xs bs i) = false := by simp only [decide_eq_false_iff_not]; omega
  rw [Hit, h4, Bool.and_false]
theorem begT_bd {xs : List (ByteArray × Int)} (hp : Pos xs) (hn : xs ≠ []) (bs : Int) (j : Nat) : bs ≤ begT xs bs j ∧ (j ≤ 2 * xs.length → begT xs bs j ≤ bs + 2 * sumL xs) := by
  have h0 : begT xs bs 0 = bs := by
    have := begT_at xs bs 0 0 (List.length_pos_iff.2 hn)
    simpa [preL_zero] using this
  have h2 : begT xs bs (2 * xs.length) = bs + 2 * sumL xs := by
    have := begT_at xs bs 2 0 (List.length_pos_iff.2 hn)
    simpa [preL_zero] using this
  exact ⟨by rw [← h0]; simpa [h0] using begT_mono hp hn bs (Nat.zero_le j), fun h => by rw [← h2]; exact begT_mono hp hn bs h⟩
theorem g_isMoment (n : Int) (h : Hp) : ACalls Tryz.prog 141 [.v (.int .i64 n)] h (fun r h' => r = .v (.bool (momB n)) ∧ h' = h) := by
  unfold momB
  refine gE Tryz.func141 rfl (by kernel_rfl) 8 rfl fun c => ?_
  (repeat (first | refine gO (by decide) ?_ | (refine gR fun K1 hK1 => ?_; simp only [go_sem, ↓reduceIte, reduceCtorEq, nA, nB, nC, nD, nE, nF] <;> and_intros <;> first | (apply hK1; clear hK1 K1) | (intros; first | omega | decide | (simp_all <;> omega)) | skip)))
  simp only [Tryz.results141, go_sem, ↓reduceIte, reduceCtorEq, nA, nB, nC, nD, nE, nF]
  refine ⟨_, _, Weak.refl _, Hp.le.refl _, ?_, rfl⟩
  cases decide (0 ≤ n) <;> rfl
theorem g_momR (n : Int) (h : Hp) : ACalls Tryz.prog 27 [.v (.int .i64 n)] h (fun r h' => r = .v (.int .i64 (if momB n = true then 0 else 1)) ∧ h' = h) := by
  have e : (decide ((0 : Int) ≤ n) && decide (n ≤ 345686399999)) = momB n := by
    unfold momB
    have : decide (n ≤ 345686399999) = decide (n < 345686400000) := by
      apply decide_eq_decide.2; omega
    rw [this]
  have hin := a_in n 0 345686399999 h
  rw [e] at hin
  generalize momB n = b at *
  refine gE Tryz.func27 rfl (by kernel_rfl) 5 rfl fun c => ?_
  (repeat (first | refine gO (by decide) ?_ | (refine gR fun K1 hK1 => ?_; simp only [go_sem, ↓reduceIte, reduceCtorEq, nA, nB, nC, nD, nE, nF] <;> and_intros <;> first | (apply hK1; clear hK1 K1) | (intros; first | omega | decide | (simp_all <;> omega)) | skip)))
  refine hin.mono ?_; rintro _ hz ⟨rfl, hh⟩; apply hK1; clear hK1 K1; rw [hh]; clear hh hz
  cases b <;> (repeat (first | refine gO (by decide) ?_ | (refine gR fun K1 hK1 => ?_; simp only [go_sem, ↓reduceIte, reduceCtorEq, nA, nB, nC, nD, nE, nF] <;> and_intros <;> first | (apply hK1; clear hK1 K1) | (intros; first | omega | decide | (simp_all <;> omega)) | skip)))
  · refine awp_cond (t := _) rfl (fun _ => ?_) (fun h9 => by cases h9)
    (repeat (first | refine gO (by decide) ?_ | (refine gR fun K1 hK1 => ?_; simp only [go_sem, ↓reduceIte, reduceCtorEq, nA, nB, nC, nD, nE, nF] <;> and_intros <;> first | (apply hK1; clear hK1 K1) | (intros; first | omega | decide | (simp_all <;> omega)) | skip)))
    simp only [Tryz.results27, go_sem, ↓reduceIte, reduceCtorEq, nA, nB, nC, nD, nE, nF]
    exact ⟨_, _, Weak.refl _, Hp.le.refl _, rfl, rfl⟩
  · refine awp_cond (t := _) rfl (fun h9 => by cases h9) (fun _ => ?_)
    (repeat (first | refine gO (by decide) ?_ | (refine gR fun K1 hK1 => ?_; simp only [go_sem, ↓reduceIte, reduceCtorEq, nA, nB, nC, nD, nE, nF] <;> and_intros <;> first | (apply hK1; clear hK1 K1) | (intros; first | omega | decide | (simp_all <;> omega)) | skip)))
    simp only [Tryz.results27, go_sem, ↓reduceIte, reduceCtorEq, nA, nB, nC, nD, nE, nF]
    exact ⟨_, _, Weak.refl _, Hp.le.refl _, rfl, rfl⟩
theorem g_timesFault (a b : Int) (h : Hp) : ACalls Tryz.prog 84 [.v (.int .i64 a), .v (.int .i64 b)] h (fun r h' => r = .v (.int .i64 (timeE a b)) ∧ h' = h) := by
  have h1 := fun h => g_isMoment a h
  have h2 := fun h => g_isMoment b h
  unfold timeE
  generalize momB a = p at *
  generalize momB b = q at *
  refine gE Tryz.func84 rfl (by kernel_rfl) 14 rfl fun c => ?_
  (repeat (first | refine gO (by decide) ?_ | (refine gR fun K1 hK1 => ?_; simp only [go_sem, ↓reduceIte, reduceCtorEq, nA, nB, nC, nD, nE, nF] <;> and_intros <;> first | (apply hK1; clear hK1 K1) | (intros; first | omega | decide | (simp_all <;> omega)) | skip)))
  refine (h1 _).mono ?_; rintro _ hz ⟨rfl, hh⟩; apply hK1; clear hK1 K1; rw [hh]; clear hh hz
  cases p with
  | false =>
    (repeat (first | refine gO (by decide) ?_ | (refine gR fun K1 hK1 => ?_; simp only [go_sem, ↓reduceIte, reduceCtorEq, nA, nB, nC, nD, nE, nF] <;> and_intros <;> first | (apply hK1; clear hK1 K1) | (intros; first | omega | decide | (simp_all <;> omega)) | skip)))
    refine ⟨.v (.bool true), rfl, hK1 _ ?_⟩; clear hK1 K1
    (repeat (first | refine gO (by decide) ?_ | (refine gR fun K1 hK1 => ?_; simp only [go_sem, ↓reduceIte, reduceCtorEq, nA, nB, nC, nD, nE, nF] <;> and_intros <;> first | (apply hK1; clear hK1 K1) | (intros; first | omega | decide | (simp_all <;> omega)) | skip)))
    refine awp_cond (t := _) rfl (fun _ => ?_) (fun h9 => by cases h9)
    (repeat (first | refine gO (by decide) ?_ | (refine gR fun K1 hK1 => ?_; simp only [go_sem, ↓reduceIte, reduceCtorEq, nA, nB, nC, nD, nE, nF] <;> and_intros <;> first | (apply hK1; clear hK1 K1) | (intros; first | omega | decide | (simp_all <;> omega)) | skip)))
    simp only [Tryz.results84, go_sem, ↓reduceIte, reduceCtorEq, nA, nB, nC, nD, nE, nF]
    exact ⟨_, _, Weak.refl _, Hp.le.refl _, rfl, rfl⟩
  | true =>
    (repeat (first | refine gO (by decide) ?_ | (refine gR fun K1 hK1 => ?_; simp only [go_sem, ↓reduceIte, reduceCtorEq, nA, nB, nC, nD, nE, nF] <;> and_intros <;> first | (apply hK1; clear hK1 K1) | (intros; first | omega | decide | (simp_all <;> omega)) | skip)))
    refine (h2 _).mono ?_; rintro _ hz ⟨rfl, hh⟩; refine ⟨rfl, hK1 _ ?_⟩; clear hK1 K1; rw [hh]; clear hh hz
    (repeat (first | refine gO (by decide) ?_ | (refine gR fun K1 hK1 => ?_; simp only [go_sem, ↓reduceIte, reduceCtorEq, nA, nB, nC, nD, nE, nF] <;> and_intros <;> first | (apply hK1; clear hK1 K1) | (intros; first | omega | decide | (simp_all <;> omega)) | skip)))
    cases q with
    | false =>
      refine awp_cond (t := _) rfl (fun _ => ?_) (fun h9 => by cases h9)
      (repeat (first | refine gO (by decide) ?_ | (refine gR fun K1 hK1 => ?_; simp only [go_sem, ↓reduceIte, reduceCtorEq, nA, nB, nC, nD, nE, nF] <;> and_intros <;> first | (apply hK1; clear hK1 K1) | (intros; first | omega | decide | (simp_all <;> omega)) | skip)))
      simp only [Tryz.results84, go_sem, ↓reduceIte, reduceCtorEq, nA, nB, nC, nD, nE, nF]
      exact ⟨_, _, Weak.refl _, Hp.le.refl _, rfl, rfl⟩
    | true =>
      refine awp_cond (t := _) rfl (fun h9 => by cases h9) (fun _ => ?_)
      (repeat (first | refine gO (by decide) ?_ | (refine gR fun K1 hK1 => ?_; simp only [go_sem, ↓reduceIte, reduceCtorEq, nA, nB, nC, nD, nE, nF] <;> and_intros <;> first | (apply hK1; clear hK1 K1) | (intros; first | omega | decide | (simp_all <;> omega)) | skip)))
      refine awp_cond (t := _) rfl (fun h9 => ?_) (fun h9 => ?_)
      · (repeat (first | refine gO (by decide) ?_ | (refine gR fun K1 hK1 => ?_; simp only [go_sem, ↓reduceIte, reduceCtorEq, nA, nB, nC, nD, nE, nF] <;> and_intros <;> first | (apply hK1; clear hK1 K1) | (intros; first | omega | decide | (simp_all <;> omega)) | skip)))
        simp only [Tryz.results84, go_sem, ↓reduceIte, reduceCtorEq, nA, nB, nC, nD, nE, nF]
        exact ⟨_, _, Weak.refl _, Hp.le.refl _, by simp [h9], rfl⟩
      · (repeat (first | refine gO (by decide) ?_ | (refine gR fun K1 hK1 => ?_; simp only [go_sem, ↓reduceIte, reduceCtorEq, nA, nB, nC, nD, nE, nF] <;> and_intros <;> first | (apply hK1; clear hK1 K1) | (intros; first | omega | decide | (simp_all <;> omega)) | skip)))
        simp only [Tryz.results84, go_sem, ↓reduceIte, reduceCtorEq, nA, nB, nC, nD, nE, nF]
        exact ⟨_, _, Weak.refl _, Hp.le.refl _, by simp [h9], rfl⟩
theorem g_at (n : Int) (xs : List (ByteArray × Int)) (x : Int) (h : Hp) (hg : GoodS xs) (h0 : 0 ≤ x) (h1 : x ≤ 1000000000000) : ACalls Tryz.prog 85 [.agg [.v (.int .i64 n), .row 2 (xs.map encStep) none, .v (.int .i64 (sumL xs))], .v (.int .i64 x)] h
    (fun r h' => r = .tup [.v (.int .i64 (posF xs (x.tmod (sumL xs)) : Nat)), .v (.int .i64 (x.tmod (sumL xs) - preL xs (posF xs (x.tmod (sumL xs)))))] ∧ h' = h) := by
  have hs := sumL_pos hg.pos hg.ne
  have hgl := hg.len
  have hr : 0 ≤ x.tmod (sumL xs) ∧ x.tmod (sumL xs) < sumL xs := ⟨Int.tmod_nonneg _ h0, Int.tmod_lt_of_pos _ (by omega)⟩
  have hsb := sumL_bd hg.pos
  have hal := preL_all xs
  have hne : (sumL xs = 0) = False := by simp; omega
  refine gE Tryz.func85 rfl (by kernel_rfl) 30 rfl fun c => ?_
  (repeat (first | refine gO (by decide) ?_ | (refine gM (mdL [(8, 1)]) fun K1 hK1 => ?_; simp only [go_sem, ↓reduceIte, reduceCtorEq, nA, nB, nC, nD, nE, nF, hne] <;> and_intros <;> first | (apply hK1; clear hK1 K1) | (intros; first | omega | decide | (simp_all <;> omega)) | skip)))
  generalize x.tmod (sumL xs) = rr at *
  refine awp_loopC (rl false [2, 1, 3, 1, 7, 3, 15]) 0 (fun g s => ∃ j : Nat, g + j = xs.length ∧ preL xs j ≤ rr ∧
    s = ⟨(AV.junk :: AV.junk :: ((.ref [.v (.int .i64 n), .row 2 (xs.map encStep) none, .v (.int .i64 (sumL xs))] 0) :: (jnk 3 ((.v (.int .i64 (rr - preL xs j))) :: (jnk 7 ((.row 2 (xs.map encStep) none) :: (.v (.int .i64 xs.length)) :: (.v (.int .i64 j)) :: (jnk 15 []))))))), [], h⟩) xs.length ⟨0, by omega, by rw [preL_zero]; omega, by rw [preL_zero, Int.sub_zero]; rfl⟩ ?_
  rintro g _ ⟨j, hj, hle, rfl⟩
  (repeat (first | refine gO (by decide) ?_ | (refine gM (mdL [(8, 1)]) fun K1 hK1 => ?_; simp only [go_sem, ↓reduceIte, reduceCtorEq, nA, nB, nC, nD, nE, nF] <;> and_intros <;> first | (apply hK1; clear hK1 K1) | (intros; first | omega | decide | (simp_all <;> omega)) | skip)))
  refine awp_cond (t := _) rfl (fun h2 => ?_) (fun h2 => ?_)
  · simp only [decide_eq_true_eq] at h2
    have hjl : j < xs.length := by omega
    have gx : (xs.map encStep).getD j [] = encStep (xs.getD j default) := getD_enc encStep xs j default hjl
    have hpa := pos_at hg.pos hjl
    have hps := preL_succ xs j hjl
    have hpb := preL_bd hg.pos j (by omega)
    generalize xs.getD j default = y at gx hpa hps
    (repeat (first | refine gO (by decide) ?_ | (refine gM (mdL [(8, 1)]) fun K1 hK1 => ?_; simp only [go_sem, ↓reduceIte, reduceCtorEq, nA, nB, nC, nD, nE, nF, Int.toNat_natCast, gx, encStep] <;> and_intros <;> first | (apply hK1; clear hK1 K1) | (intros; first | omega | decide | (simp_all <;> omega)) | skip)))
    refine awp_cond (t := _) rfl (fun h3 => ?_) (fun h3 => ?_)
    · simp only [decide_eq_true_eq] at h3
      (repeat (first | refine gO (by decide) ?_ | (refine gM (mdL [(8, 1)]) fun K1 hK1 => ?_; simp only [go_sem, ↓reduceIte, reduceCtorEq, nA, nB, nC, nD, nE, nF] <;> and_intros <;> first | (apply hK1; clear hK1 K1) | (intros; first | omega | decide | (simp_all <;> omega)) | skip)))
      simp only [Tryz.results85, go_sem, ↓reduceIte, reduceCtorEq, nA, nB, nC, nD, nE, nF]
      have hpf := posF_of hg.pos hjl hle (show rr < preL xs (j + 1) by omega)
      exact ⟨_, _, Weak.refl _, Hp.le.refl _, by rw [hpf], rfl⟩
    · simp only [decide_eq_false_iff_not] at h3
      (repeat (first | refine gO (by decide) ?_ | (refine gM (mdL [(8, 1)]) fun K1 hK1 => ?_; simp only [go_sem, ↓reduceIte, reduceCtorEq, nA, nB, nC, nD, nE, nF] <;> and_intros <;> first | (apply hK1; clear hK1 K1) | (intros; first | omega | decide | (simp_all <;> omega)) | skip)))
      refine ⟨g - 1, by omega, j + 1, by omega, by omega, ?_⟩
      rw [hps, ← Int.sub_sub]; rfl
  · simp only [decide_eq_false_iff_not] at h2
    have hjl : j = xs.length := by omega
    rw [hjl, hal] at hle
    omega
theorem g_stepAt (xs : List (ByteArray × Int)) (a x : Int) (h : Hp) (hg : GoodS xs) (h0 : 0 ≤ a ∧ a ≤ x) (h1 : x ≤ 1000000000000) : ACalls Tryz.prog 30 [.row 2 (xs.map encStep) none, .v (.int .i64 a), .v (.int .i64 x)] h
    (fun r h' => r = .tup [.agg (encStep (xs.getD (posF xs ((x - a).tmod (sumL xs))) default)), .v (.int .i64 (x - (x - a).tmod (sumL xs) + preL xs (posF xs ((x - a).tmod (sumL xs)))))] ∧ h' = h) := by
  have hs := sumL_pos hg.pos hg.ne
  have hgl := hg.len
  have hr := rest_bd hg.pos hg.ne h0.2
  have hsb := sumL_bd hg.pos
  have hal := preL_all xs
  have hne : (sumL xs = 0) = False := by simp; omega
  refine gE Tryz.func30 rfl (by kernel_rfl) 49 rfl fun c => ?_
  (repeat (first | refine gO (by decide) ?_ | (refine gM (mdL [(6, 1), (10, 1), (13, 1)]) fun K1 hK1 => ?_; simp only [go_sem, ↓reduceIte, reduceCtorEq, nA, nB, nC, nD, nE, nF] <;> and_intros <;> first | (apply hK1; clear hK1 K1) | (intros; first | omega | decide | (simp_all <;> omega)) | skip)))
  refine awp_loopC (rl false [0, 3, 3, 1, 1, 1, 5, 3, 35]) 1 (fun g s => ∃ j : Nat, g + j = xs.length ∧
    s = ⟨((.row 2 (xs.map encStep) none) :: (.v (.int .i64 a)) :: (.v (.int .i64 x)) :: (jnk 3 ((.loc 0 0) :: AV.junk :: ((.v (.int .i64 (preL xs j))) :: (jnk 5 ((.row 2 (xs.map encStep) none) :: (.v (.int .i64 xs.length)) :: (.v (.int .i64 j)) :: (jnk 35 []))))))), [[.v (.string ⟨#[]⟩), .v (.int .i64 0)]], h⟩) xs.length ⟨0, by omega, rfl⟩ ?_
  rintro g _ ⟨j, hj, rfl⟩
  have hpb := preL_bd hg.pos j (by omega)
  (repeat (first | refine gO (by decide) ?_ | (refine gM (mdL [(6, 1), (10, 1), (13, 1)]) fun K1 hK1 => ?_; simp only [go_sem, ↓reduceIte, reduceCtorEq, nA, nB, nC, nD, nE, nF] <;> and_intros <;> first | (apply hK1; clear hK1 K1) | (intros; first | omega | decide | (simp_all <;> omega)) | skip)))
  refine awp_cond (t := _) rfl (fun h2 => ?_) (fun h2 => ?_)
  · simp only [decide_eq_true_eq] at h2
    have hjl : j < xs.length := by omega
    have gx : (xs.map encStep).getD j [] = encStep (xs.getD j default) := getD_enc encStep xs j default hjl
    have hpa := pos_at hg.pos hjl
    have hps := preL_succ xs j hjl
    generalize xs.getD j default = y at gx hpa hps
    (repeat (first | refine gO (by decide) ?_ | (refine gM (mdL [(6, 1), (10, 1), (13, 1)]) fun K1 hK1 => ?_; simp only [go_sem, ↓reduceIte, reduceCtorEq, nA, nB, nC, nD, nE, nF, Int.toNat_natCast, gx, encStep] <;> and_intros <;> first | (apply hK1; clear hK1 K1) | (intros; first | omega | decide | (simp_all <;> omega)) | skip)))
    exact ⟨g - 1, by omega, j + 1, by omega, by rw [hps]; rfl⟩
  · simp only [decide_eq_false_iff_not] at h2
    have hjl : j = xs.length := by omega
    subst hjl
    rw [hal] at hpb ⊢
    clear hj h2
    (repeat (first | refine gO (by decide) ?_ | (refine gM (mdL [(6, 1), (10, 1), (13, 1)]) fun K1 hK1 => ?_; simp only [go_sem, ↓reduceIte, reduceCtorEq, nA, nB, nC, nD, nE, nF, hne] <;> and_intros <;> first | (apply hK1; clear hK1 K1) | (intros; first | omega | decide | (simp_all <;> omega)) | skip)))
    generalize (x - a).tmod (sumL xs) = rr at *
    refine awp_loopC (rl false [2, 1, 3, 1, 4, 1, 20, 3, 17]) 1 (fun g2 s => ∃ j : Nat, g2 + j = xs.length ∧ preL xs j ≤ rr ∧
      s = ⟨(AV.junk :: AV.junk :: ((.v (.int .i64 x)) :: (jnk 3 ((.loc 0 0) :: (jnk 4 ((.v (.int .i64 (x - rr + preL xs j))) :: (jnk 20 ((.row 2 (xs.map encStep) none) :: (.v (.int .i64 xs.length)) :: (.v (.int .i64 j)) :: (jnk 17 []))))))))), [[.v (.string ⟨#[]⟩), .v (.int .i64 0)]], h⟩) xs.length ⟨0, by omega, by rw [preL_zero]; omega, by rw [preL_zero, Int.add_zero]; rfl⟩ ?_
    rintro g2 _ ⟨j, hj, hle, rfl⟩
    (repeat (first | refine gO (by decide) ?_ | (refine gM (mdL [(6, 1), (10, 1), (13, 1)]) fun K1 hK1 => ?_; simp only [go_sem, ↓reduceIte, reduceCtorEq, nA, nB, nC, nD, nE, nF] <;> and_intros <;> first | (apply hK1; clear hK1 K1) | (intros; first | omega | decide | (simp_all <;> omega)) | skip)))
    refine awp_cond (t := _) rfl (fun h2 => ?_) (fun h2 => ?_)
    · simp only [decide_eq_true_eq] at h2
      have hjl : j < xs.length := by omega
      have gx : (xs.map encStep).getD j [] = encStep (xs.getD j default) := getD_enc encStep xs j default hjl
      have hpa := pos_at hg.pos hjl
      have hps := preL_succ xs j hjl
      have hpb := preL_bd hg.pos j (by omega)
      have hpf := fun e => posF_of hg.pos hjl hle (r := rr) e
      obtain ⟨y, hy⟩ : ∃ y, y = xs.getD j default := ⟨_, rfl⟩
      rw [← hy] at gx hpa hps
      (repeat (first | refine gO (by decide) ?_ | (refine gM (mdL [(6, 1), (10, 1), (13, 1)]) fun K1 hK1 => ?_; simp only [go_sem, ↓reduceIte, reduceCtorEq, nA, nB, nC, nD, nE, nF, Int.toNat_natCast, gx, encStep] <;> and_intros <;> first | (apply hK1; clear hK1 K1) | (intros; first | omega | decide | (simp_all <;> omega)) | skip)))
      refine awp_cond (t := _) rfl (fun h3 => ?_) (fun h3 => ?_)
      · simp only [decide_eq_true_eq] at h3
        (repeat (first | refine gO (by decide) ?_ | (refine gM (mdL [(6, 1), (10, 1), (13, 1)]) fun K1 hK1 => ?_; simp only [go_sem, ↓reduceIte, reduceCtorEq, nA, nB, nC, nD, nE, nF] <;> and_intros <;> first | (apply hK1; clear hK1 K1) | (intros; first | omega | decide | (simp_all <;> omega)) | skip)))
        simp only [Tryz.results30, go_sem, ↓reduceIte, reduceCtorEq, nA, nB, nC, nD, nE, nF]
        exact ⟨_, _, Weak.refl _, Hp.le.refl _, by rw [hpf (by omega), ← hy]; rfl, rfl⟩
      · simp only [decide_eq_false_iff_not] at h3
        (repeat (first | refine gO (by decide) ?_ | (refine gM (mdL [(6, 1), (10, 1), (13, 1)]) fun K1 hK1 => ?_; simp only [go_sem, ↓reduceIte, reduceCtorEq, nA, nB, nC, nD, nE, nF] <;> and_intros <;> first | (apply hK1; clear hK1 K1) | (intros; first | omega | decide | (simp_all <;> omega)) | skip)))
        refine ⟨g2 - 1, by omega, j + 1, by omega, by omega, ?_⟩
        rw [hps, ← Int.add_assoc]; rfl
    · simp only [decide_eq_false_iff_not] at h2
      have hjl : j = xs.length := by omega
      rw [hjl, hal] at hle
      omega
open Go.RowKit
def EqPRel (n : Nat) (w : World) (g : Nat) (i : Value) (wr : World) : Prop := ∃ k : Nat, k + g = n ∧ i = .int .i64 k ∧ ∃ q, wr = w.drewN q
def PnCells (w : World) (g o n : Nat) (s : Nat → ByteArray) (p q r u : Nat → Int) : Prop :=
  ∀ k, k < n → w.cell? ⟨g, o + k * 5, none⟩ = some (.string (s k)) ∧ w.cell? ⟨g, o + k * 5 + 1, none⟩ = some (.int .i64 (p k)) ∧ w.cell? ⟨g, o + k * 5 + 2, none⟩ = some (.int .i64 (q k)) ∧ w.cell? ⟨g, o + k * 5 + 3, none⟩ = some (.int .i64 (r k)) ∧ w.cell? ⟨g, o + k * 5 + 4, none⟩ = some (.int .i64 (u k))
set_option maxRecDepth 100000 in
set_option maxHeartbeats 1000000 in
theorem equalP_same (g o g' o' n c c' : Nat) (s : Nat → ByteArray) (p q r u : Nat → Int) (w : World) (hn : n ≤ 1000000000) (h1 : PnCells w g o n s p q r u) (h2 : PnCells w g' o' n s p q r u) :
    Calls Tryz.prog 23 #[.slice (some ⟨g, o, none⟩) n c, .slice (some ⟨g', o', none⟩) n c'] w fun e w' => e = .returned (.bool true) ∧ ∃ q, w' = w.drewN q := by
  have H1 := Lib.hid h1
  have H2 := Lib.hid h2
  clear h1 h2
  go_enter Tryz.func23, Tryz.ntmps23
  go_wp2_with fail
  go_loopg [13, 5] n (fun gg i _ wr => EqPRel n w gg i wr)
  case atStart => exact ⟨0, by omega, rfl, 0, rfl⟩
  case round =>
    obtain ⟨k, hk, rfl, z, rfl⟩ := hrel
    by_cases hg : gk = 0
    · obtain rfl : k = n := by omega
      clear hk hg
      go_wp2_with fail
      go_ret
      exact ⟨rfl, _, rfl⟩
    · have hlt : k < n := by omega
      obtain ⟨c0, c1, c2, c3, c4⟩ := H1.out k hlt
      obtain ⟨d0, d1, d2, d3, d4⟩ := H2.out k hlt
      generalize s k = s1 at *
      generalize p k = v1 at *
      generalize q k = v2 at *
      generalize r k = v3 at *
      generalize u k = v4 at *
      have HK := Lib.hid hk
      have hgk : gk ≠ 0 := hg
      clear hk hg
      have hlt' : (k : Int) < (n : Int) := by omega
      go_wp2_with fail
      go_quiet (fail)
      go_wp2_with fail
      go_roundg (gk - 1)
      case measure => omega
      case rel => exact ⟨k + 1, by have := HK.out; omega, by go_num, _, rfl⟩
theorem g_OnAt (d : Nat) (t : LT) (a x : Int) (h : Hp) (hb : KC d t) (hd : manyF t ≤ 1000000000000000 ∧ d ≤ 1000) : ACalls Tryz.prog 25 [.agg (encL t), .v (.int .i64 a), .v (.int .i64 x)] h
    (fun r _ => ∃ sc c, r = .tup [.agg (encStep sc), .v (.int .i64 c), .v (.int .i64 (orI [faultF t, timeE a x, rdE d t]))] ∧ (orI [faultF t, timeE a x, rdE d t] = 0 → sc = (rdS d t).getD (posF (rdS d t) ((x - a).tmod (sumL (rdS d t)))) default ∧ c = x - (x - a).tmod (sumL (rdS d t)) + preL (rdS d t) (posF (rdS d t) ((x - a).tmod (sumL (rdS d t)))))) := by
  have hlen := encL_len t
  have htk : List.take 6 (encL t) = encL t := List.take_of_length_le (Nat.le_of_eq hlen)
  have hdk : List.drop 6 (encL t) = [] := List.drop_of_length_le (Nat.le_of_eq hlen)
  have hck := fun h => g_check7 d t h hb hd
  have htf := fun h => g_timesFault a x h
  have hgood := fun he => rd_good (d := d) (t := t) hb he
  have hz : timeE a x = 0 → _ := timeE_zero
  have hdef : ([AV.v (.string ⟨#[]⟩), .v (.int .i64 0)] : List AV) = encStep default := rfl
  refine gE Tryz.func25 rfl (by kernel_rfl) 50 rfl fun c => ?_
  (repeat (first | refine gO (by decide) ?_ | (refine gM (mdL [(6, 1), (11, 1)]) fun K1 hK1 => ?_; simp only [go_sem, ↓reduceIte, reduceCtorEq, nA, nB, nC, nD, nE, nF, hlen, htk, hdk] <;> and_intros <;> first | (apply hK1; clear hK1 K1) | (intros; first | omega | decide | (simp_all <;> omega)) | skip)))
  refine (hck _).mono ?_; rintro _ hz ⟨rfl, hh⟩; apply hK1; clear hK1 K1; rw [hh]; clear hh hz
  (repeat (first | refine gO (by decide) ?_ | (refine gM (mdL [(6, 1), (11, 1)]) fun K1 hK1 => ?_; simp only [go_sem, ↓reduceIte, reduceCtorEq, nA, nB, nC, nD, nE, nF, hlen, htk, hdk] <;> and_intros <;> first | (apply hK1; clear hK1 K1) | (intros; first | omega | decide | (simp_all <;> omega)) | skip)))
  by_cases hf : faultF t = 0
  · have hv := vl_of d t hb (part_of_fault hf)
    have hrp := fun h => g_roundP d t h hb hv (il_of d t (part_of_fault hf))
    unfold roundC at hrp
    unfold rdE rdS at *
    rw [if_pos hf, if_pos hf] at *
    rw [hf]
    refine awp_cond (t := _) rfl (fun h9 => by cases h9) (fun _ => ?_)
    (repeat (first | refine gO (by decide) ?_ | (refine gM (mdL [(6, 1), (11, 1)]) fun K1 hK1 => ?_; simp only [go_sem, ↓reduceIte, reduceCtorEq, nA, nB, nC, nD, nE, nF, hlen, htk, hdk] <;> and_intros <;> first | (apply hK1; clear hK1 K1) | (intros; first | omega | decide | (simp_all <;> omega)) | skip)))
    refine (htf _).mono ?_; rintro _ hz ⟨rfl, hh⟩; apply hK1; clear hK1 K1; rw [hh]; clear hh hz
    (repeat (first | refine gO (by decide) ?_ | (refine gM (mdL [(6, 1), (11, 1)]) fun K1 hK1 => ?_; simp only [go_sem, ↓reduceIte, reduceCtorEq, nA, nB, nC, nD, nE, nF, hlen, htk, hdk] <;> and_intros <;> first | (apply hK1; clear hK1 K1) | (intros; first | omega | decide | (simp_all <;> omega)) | skip)))
    by_cases ht : timeE a x = 0
    · obtain ⟨z1, z2, z3⟩ := hz ht
      rw [ht]
      refine awp_cond (t := _) rfl (fun h9 => by cases h9) (fun _ => ?_)
      (repeat (first | refine gO (by decide) ?_ | (refine gM (mdL [(6, 1), (11, 1)]) fun K1 hK1 => ?_; simp only [go_sem, ↓reduceIte, reduceCtorEq, nA, nB, nC, nD, nE, nF, hlen, htk, hdk] <;> and_intros <;> first | (apply hK1; clear hK1 K1) | (intros; first | omega | decide | (simp_all <;> omega)) | skip)))
      refine (hrp _).mono ?_
      rintro _ h2 rfl
      refine hK1 _ ?_; clear hK1 K1
      have hsl : ((roundS d t).map (·.2)).sum = sumL (roundS d t) := rfl
      rw [hsl]
      clear hrp hck htf
      generalize roundS d t = xs at *
      generalize roundN d t = n at *
      generalize roundE d t = e at *
      (repeat (first | refine gO (by decide) ?_ | (refine gM (mdL [(6, 1), (11, 1)]) fun K1 hK1 => ?_; simp only [go_sem, ↓reduceIte, reduceCtorEq, nA, nB, nC, nD, nE, nF] <;> and_intros <;> first | (apply hK1; clear hK1 K1) | (intros; first | omega | decide | (simp_all <;> omega)) | skip)))
      by_cases he : e = 0
      · subst he
        have hg := hgood rfl
        refine awp_cond (t := _) rfl (fun h9 => by cases h9) (fun _ => ?_)
        (repeat (first | refine gO (by decide) ?_ | (refine gM (mdL [(6, 1), (11, 1)]) fun K1 hK1 => ?_; simp only [go_sem, ↓reduceIte, reduceCtorEq, nA, nB, nC, nD, nE, nF] <;> and_intros <;> first | (apply hK1; clear hK1 K1) | (intros; first | omega | decide | (simp_all <;> omega)) | skip)))
        have hat := fun h => g_at (n : Int) xs (x - a) h hg (by omega) (by omega)
        have hr := rest_bd hg.pos hg.ne z2
        obtain ⟨p1, p2, p3⟩ := posF_ex hg.pos hr.1 hr.2
        have hgl := hg.len
        have hsb := sumL_bd hg.pos
        have hpb := preL_nonneg hg.pos (posF xs ((x - a).tmod (sumL xs)))
        generalize (x - a).tmod (sumL xs) = rr at *
        generalize posF xs rr = i at *
        refine (hat _).mono ?_; rintro _ hz ⟨rfl, hh⟩; apply hK1; clear hK1 K1; rw [hh]; clear hh hz
        have gx : (xs.map encStep).getD i [] = encStep (xs.getD i default) := getD_enc encStep xs i default p1
        generalize xs.getD i default = y at *
        (repeat (first | refine gO (by decide) ?_ | (refine gM (mdL [(6, 1), (11, 1)]) fun K1 hK1 => ?_; simp only [go_sem, ↓reduceIte, reduceCtorEq, nA, nB, nC, nD, nE, nF, Int.toNat_natCast, gx, encStep] <;> and_intros <;> first | (apply hK1; clear hK1 K1) | (intros; first | omega | decide | (simp_all <;> omega)) | skip)))
        simp only [Tryz.results25, go_sem, ↓reduceIte, reduceCtorEq, nA, nB, nC, nD, nE, nF]
        refine ⟨_, _, Weak.refl _, Hp.le.refl _, y, _, rfl, fun _ => ⟨rfl, by omega⟩⟩
      · have hb9 : (e != 0) = true := by simpa using he
        refine awp_cond (t := _) rfl (fun _ => ?_) (fun h9 => by rw [hb9] at h9; cases h9)
        (repeat (first | refine gO (by decide) ?_ | (refine gM (mdL [(6, 1), (11, 1)]) fun K1 hK1 => ?_; simp only [go_sem, ↓reduceIte, reduceCtorEq, nA, nB, nC, nD, nE, nF] <;> and_intros <;> first | (apply hK1; clear hK1 K1) | (intros; first | omega | decide | (simp_all <;> omega)) | skip)))
        simp only [Tryz.results25, go_sem, ↓reduceIte, reduceCtorEq, nA, nB, nC, nD, nE, nF]
        refine ⟨_, _, Weak.refl _, Hp.le.refl _, default, 0, ?_, fun h9 => ?_⟩
        · simp [orI]; rfl
        · simp [orI] at h9; exact absurd (h9 he) he
    · have hb9 : (timeE a x != 0) = true := by simpa using ht
      generalize timeE a x = e at *
      refine awp_cond (t := _) rfl (fun _ => ?_) (fun h9 => by rw [hb9] at h9; cases h9)
      (repeat (first | refine gO (by decide) ?_ | (refine gM (mdL [(6, 1), (11, 1)]) fun K1 hK1 => ?_; simp only [go_sem, ↓reduceIte, reduceCtorEq, nA, nB, nC, nD, nE, nF] <;> and_intros <;> first | (apply hK1; clear hK1 K1) | (intros; first | omega | decide | (simp_all <;> omega)) | skip)))
      simp only [Tryz.results25, go_sem, ↓reduceIte, reduceCtorEq, nA, nB, nC, nD, nE, nF]
      refine ⟨_, _, Weak.refl _, Hp.le.refl _, default, 0, ?_, fun h9 => ?_⟩
      · simp [orI, ht]; rfl
      · simp [orI, ht] at h9
  · have hb9 : (faultF t != 0) = true := by simpa using hf
    refine awp_cond (t := _) rfl (fun _ => ?_) (fun h9 => by rw [hb9] at h9; cases h9)
    (repeat (first | refine gO (by decide) ?_ | (refine gM (mdL [(6, 1), (11, 1)]) fun K1 hK1 => ?_; simp only [go_sem, ↓reduceIte, reduceCtorEq, nA, nB, nC, nD, nE, nF] <;> and_intros <;> first | (apply hK1; clear hK1 K1) | (intros; first | omega | decide | (simp_all <;> omega)) | skip)))
    simp only [Tryz.results25, go_sem, ↓reduceIte, reduceCtorEq, nA, nB, nC, nD, nE, nF]
    refine ⟨_, _, Weak.refl _, Hp.le.refl _, default, 0, ?_, fun h9 => ?_⟩
    · simp [orI, hf]; rfl
    · simp [orI, hf] at h9
def untilV (xs : List (ByteArray × Int)) (bs x : Int) (item : ByteArray) : List AV :=
  match hitF xs bs x item with
  | some j => if 345686400000 ≤ begT xs bs j then [.v (.int .i64 0), .v (.bool false), .v (.int .i64 2)] else [.v (.int .i64 (begT xs bs j)), .v (.bool true), .v (.int .i64 0)]
  | none => [.v (.int .i64 0), .v (.bool false), .v (.int .i64 0)]
theorem g_Until (d : Nat) (t : LT) (a x : Int) (item : ByteArray) (h : Hp) (hb : KC d t) (hd : manyF t ≤ 1000000000000000 ∧ d ≤ 1000) (hi : item.size ≤ 1000) : ACalls Tryz.prog 26 [.agg (encL t), .v (.int .i64 a), .v (.int .i64 x), .v (.string item)] h
    (fun r _ => (orI [faultF t, if keyB item = true then 0 else 5, timeE a x, rdE d t] ≠ 0 → r = .tup [.v (.int .i64 0), .v (.bool false), .v (.int .i64 (orI [faultF t, if keyB item = true then 0 else 5, timeE a x, rdE d t]))]) ∧
      (orI [faultF t, if keyB item = true then 0 else 5, timeE a x, rdE d t] = 0 → r = .tup (untilV (rdS d t) (baseT (rdS d t) a x) x item))) := by
  have hlen := encL_len t
  have htk : List.take 6 (encL t) = encL t := List.take_of_length_le (Nat.le_of_eq hlen)
  have hdk : List.drop 6 (encL t) = [] := List.drop_of_length_le (Nat.le_of_eq hlen)
  have hck := fun h => g_check7 d t h hb hd
  have htf := fun h => g_timesFault a x h
  have hkf := fun h => a_isKey item (by omega) h
  have hgood := fun he => rd_good (d := d) (t := t) hb he
  have hz : timeE a x = 0 → _ := timeE_zero
  refine gE Tryz.func26 rfl (by kernel_rfl) 77 rfl fun c => ?_
  (repeat (first | refine gO (by decide) ?_ | (refine gM (mdL [(13, 1), (18, 1)]) fun K1 hK1 => ?_; simp only [go_sem, ↓reduceIte, reduceCtorEq, nA, nB, nC, nD, nE, nF, hlen, htk, hdk] <;> and_intros <;> first | (apply hK1; clear hK1 K1) | (intros; first | omega | decide | (simp_all <;> omega)) | skip)))
  refine (hck _).mono ?_; rintro _ hz ⟨rfl, hh⟩; apply hK1; clear hK1 K1; rw [hh]; clear hh hz
  (repeat (first | refine gO (by decide) ?_ | (refine gM (mdL [(13, 1), (18, 1)]) fun K1 hK1 => ?_; simp only [go_sem, ↓reduceIte, reduceCtorEq, nA, nB, nC, nD, nE, nF, hlen, htk, hdk] <;> and_intros <;> first | (apply hK1; clear hK1 K1) | (intros; first | omega | decide | (simp_all <;> omega)) | skip)))
  by_cases hf : faultF t = 0
  · have hv := vl_of d t hb (part_of_fault hf)
    have hrp := fun h => g_roundP d t h hb hv (il_of d t (part_of_fault hf))
    unfold roundC at hrp
    unfold rdE rdS at *
    rw [if_pos hf, if_pos hf] at *
    rw [hf]
    refine awp_cond (t := _) rfl (fun h9 => by cases h9) (fun _ => ?_)
    (repeat (first | refine gO (by decide) ?_ | (refine gM (mdL [(13, 1), (18, 1)]) fun K1 hK1 => ?_; simp only [go_sem, ↓reduceIte, reduceCtorEq, nA, nB, nC, nD, nE, nF, hlen, htk, hdk] <;> and_intros <;> first | (apply hK1; clear hK1 K1) | (intros; first | omega | decide | (simp_all <;> omega)) | skip)))
    refine (hkf _).mono ?_; rintro _ hz ⟨rfl, hh⟩; apply hK1; clear hK1 K1; rw [hh]; clear hh hz
    cases hkb : keyB item with
    | false =>
      (repeat (first | refine gO (by decide) ?_ | (refine gM (mdL [(13, 1), (18, 1)]) fun K1 hK1 => ?_; simp only [go_sem, ↓reduceIte, reduceCtorEq, nA, nB, nC, nD, nE, nF, hlen, htk, hdk] <;> and_intros <;> first | (apply hK1; clear hK1 K1) | (intros; first | omega | decide | (simp_all <;> omega)) | skip)))
      refine awp_cond (t := _) rfl (fun _ => ?_) (fun h9 => by cases h9)
      (repeat (first | refine gO (by decide) ?_ | (refine gM (mdL [(13, 1), (18, 1)]) fun K1 hK1 => ?_; simp only [go_sem, ↓reduceIte, reduceCtorEq, nA, nB, nC, nD, nE, nF] <;> and_intros <;> first | (apply hK1; clear hK1 K1) | (intros; first | omega | decide | (simp_all <;> omega)) | skip)))
      simp only [Tryz.results26, go_sem, ↓reduceIte, reduceCtorEq, nA, nB, nC, nD, nE, nF]
      exact ⟨_, _, Weak.refl _, Hp.le.refl _, fun _ => by simp [orI], fun h9 => by simp [orI] at h9⟩
    | true =>
      (repeat (first | refine gO (by decide) ?_ | (refine gM (mdL [(13, 1), (18, 1)]) fun K1 hK1 => ?_; simp only [go_sem, ↓reduceIte, reduceCtorEq, nA, nB, nC, nD, nE, nF, hlen, htk, hdk] <;> and_intros <;> first | (apply hK1; clear hK1 K1) | (intros; first | omega | decide | (simp_all <;> omega)) | skip)))
      refine awp_cond (t := _) rfl (fun h9 => by cases h9) (fun _ => ?_)
      (repeat (first | refine gO (by decide) ?_ | (refine gM (mdL [(13, 1), (18, 1)]) fun K1 hK1 => ?_; simp only [go_sem, ↓reduceIte, reduceCtorEq, nA, nB, nC, nD, nE, nF, hlen, htk, hdk] <;> and_intros <;> first | (apply hK1; clear hK1 K1) | (intros; first | omega | decide | (simp_all <;> omega)) | skip)))
      refine (htf _).mono ?_; rintro _ hz ⟨rfl, hh⟩; apply hK1; clear hK1 K1; rw [hh]; clear hh hz
      (repeat (first | refine gO (by decide) ?_ | (refine gM (mdL [(13, 1), (18, 1)]) fun K1 hK1 => ?_; simp only [go_sem, ↓reduceIte, reduceCtorEq, nA, nB, nC, nD, nE, nF, hlen, htk, hdk] <;> and_intros <;> first | (apply hK1; clear hK1 K1) | (intros; first | omega | decide | (simp_all <;> omega)) | skip)))
      by_cases ht : timeE a x = 0
      · obtain ⟨z1, z2, z3⟩ := hz ht
        rw [ht]
        refine awp_cond (t := _) rfl (fun h9 => by cases h9) (fun _ => ?_)
        (repeat (first | refine gO (by decide) ?_ | (refine gM (mdL [(13, 1), (18, 1)]) fun K1 hK1 => ?_; simp only [go_sem, ↓reduceIte, reduceCtorEq, nA, nB, nC, nD, nE, nF, hlen, htk, hdk] <;> and_intros <;> first | (apply hK1; clear hK1 K1) | (intros; first | omega | decide | (simp_all <;> omega)) | skip)))
        refine (hrp _).mono ?_
        rintro _ h2 rfl
        refine hK1 _ ?_; clear hK1 K1
        have hsl : ((roundS d t).map (·.2)).sum = sumL (roundS d t) := rfl
        rw [hsl]
        clear hrp hck htf hkf
        generalize roundS d t = xs at *
        generalize roundN d t = n at *
        generalize roundE d t = e at *
        (repeat (first | refine gO (by decide) ?_ | (refine gM (mdL [(13, 1), (18, 1)]) fun K1 hK1 => ?_; simp only [go_sem, ↓reduceIte, reduceCtorEq, nA, nB, nC, nD, nE, nF] <;> and_intros <;> first | (apply hK1; clear hK1 K1) | (intros; first | omega | decide | (simp_all <;> omega)) | skip)))
        by_cases he : e = 0
        · subst he
          have hg := hgood rfl
          refine awp_cond (t := _) rfl (fun h9 => by cases h9) (fun _ => ?_)
          have hr := rest_bd hg.pos hg.ne z2
          have hsp := sumL_pos hg.pos hg.ne
          have hsb := sumL_bd hg.pos
          have hgl := hg.len
          have hne : (sumL xs = 0) = False := by simp; omega
          have hbs : x - (x - a).tmod (sumL xs) = baseT xs a x := rfl
          have hbl := base_le hg.pos hg.ne z2
          (repeat (first | refine gO (by decide) ?_ | (refine gM (mdL [(13, 1), (18, 1)]) fun K1 hK1 => ?_; simp only [go_sem, ↓reduceIte, reduceCtorEq, nA, nB, nC, nD, nE, nF, hne] <;> and_intros <;> first | (apply hK1; clear hK1 K1) | (intros; first | omega | decide | (simp_all <;> omega)) | skip)))
          rw [hbs]
          clear hbs hne
          generalize baseT xs a x = bs at *
          generalize (x - a).tmod (sumL xs) = rr at *
          have hnl := List.length_pos_iff.2 hg.ne
          have hor : orI [(0 : Int), if true = true then 0 else 5, 0, 0] = 0 := by simp [orI]
          rw [hor]
          have hT0 : begT xs bs (0 * xs.length) = bs := by
            have := begT_at xs bs 0 0 hnl
            simpa [preL_zero] using this
          refine awp_loopC (rl false [2, 2, 9, 1, 1, 1, 33, 1, 31]) 1 (fun g s => ∃ ro : Nat, g + ro = 2 ∧ (∀ i, i < ro * xs.length → Hit xs bs x item i = false) ∧
            s = ⟨(AV.junk :: AV.junk :: ((.v (.int .i64 x)) :: (.v (.string item)) :: (jnk 9 ((.loc 0 0) :: AV.junk :: ((.v (.int .i64 (begT xs bs (ro * xs.length)))) :: (jnk 33 ((.v (.int .i64 ro)) :: (jnk 31 [])))))))), [[.v (.int .i64 n), .row 2 (xs.map encStep) none, .v (.int .i64 (sumL xs))]], h2⟩) 2 ⟨0, by omega, by omega, by rw [hT0]; rfl⟩ ?_
          rintro g _ ⟨ro, hro, hnh, rfl⟩
          (repeat (first | refine gO (by decide) ?_ | (refine gM (mdL [(13, 1), (18, 1)]) fun K1 hK1 => ?_; simp only [go_sem, ↓reduceIte, reduceCtorEq, nA, nB, nC, nD, nE, nF] <;> and_intros <;> first | (apply hK1; clear hK1 K1) | (intros; first | omega | decide | (simp_all <;> omega)) | skip)))
          refine awp_cond (t := _) rfl (fun h3 => ?_) (fun h3 => ?_)
          · simp only [decide_eq_true_eq] at h3
            have hT1 : begT xs bs ((ro + 1) * xs.length) = begT xs bs (ro * xs.length) + sumL xs := by
              have e1 := begT_at xs bs (ro + 1) 0 hnl
              have e2 := begT_at xs bs ro 0 hnl
              rw [Nat.add_zero] at e1 e2
              rw [e1, e2]; push_cast; rw [Int.add_mul]; omega
            have hbd := begT_bd hg.pos hg.ne bs
            have hmul : (ro + 1) * xs.length ≤ 2 * xs.length := Nat.mul_le_mul_right _ (by omega)
            have hmul2 : (ro + 1) * xs.length = ro * xs.length + xs.length := by rw [Nat.add_mul, Nat.one_mul]
            have hbr := hbd (ro * xs.length)
            have hb2 := hbr.2 (by omega)
            (repeat (first | refine gQ (by decide) ?_ | (refine gM (mdL [(13, 1), (18, 1)]) fun K1 hK1 => ?_; simp only [go_sem, ↓reduceIte, reduceCtorEq, nA, nB, nC, nD, nE, nF] <;> and_intros <;> first | (apply hK1; clear hK1 K1) | (intros; first | omega | decide | (simp_all <;> omega)) | skip)))
            refine awp_seq ?_
            refine awp_block ?_
            (repeat (first | refine gQ (by decide) ?_ | (refine gM (mdL [(13, 1), (18, 1)]) fun K1 hK1 => ?_; simp only [go_sem, ↓reduceIte, reduceCtorEq, nA, nB, nC, nD, nE, nF] <;> and_intros <;> first | (apply hK1; clear hK1 K1) | (intros; first | omega | decide | (simp_all <;> omega)) | skip)))
            refine awp_seq ?_
            (repeat (first | refine gO (by decide) ?_ | (refine gM (mdL [(13, 1), (18, 1)]) fun K1 hK1 => ?_; simp only [go_sem, ↓reduceIte, reduceCtorEq, nA, nB, nC, nD, nE, nF] <;> and_intros <;> first | (apply hK1; clear hK1 K1) | (intros; first | omega | decide | (simp_all <;> omega)) | skip)))
            refine awp_loopC (rl false [2, 2, 9, 1, 1, 2, 32, 1, 3, 3, 25]) 1 (fun g2 s => ∃ i : Nat, g2 + i = xs.length ∧ (∀ q, q < ro * xs.length + i → Hit xs bs x item q = false) ∧
              s = ⟨(AV.junk :: AV.junk :: ((.v (.int .i64 x)) :: (.v (.string item)) :: (jnk 9 ((.loc 0 0) :: AV.junk :: ((.v (.int .i64 (begT xs bs (ro * xs.length)))) :: (.v (.int .i64 (begT xs bs (ro * xs.length + i)))) :: (jnk 32 ((.v (.int .i64 ro)) :: (jnk 3 ((.row 2 (xs.map encStep) none) :: (.v (.int .i64 xs.length)) :: (.v (.int .i64 i)) :: (jnk 25 [])))))))))), [[.v (.int .i64 n), .row 2 (xs.map encStep) none, .v (.int .i64 (sumL xs))]], h2⟩) xs.length ⟨0, by omega, by simpa using hnh, rfl⟩ ?_
            rintro g2 _ ⟨i, hi, hnh2, rfl⟩
            (repeat (first | refine gO (by decide) ?_ | (refine gM (mdL [(13, 1), (18, 1)]) fun K1 hK1 => ?_; simp only [go_sem, ↓reduceIte, reduceCtorEq, nA, nB, nC, nD, nE, nF] <;> and_intros <;> first | (apply hK1; clear hK1 K1) | (intros; first | omega | decide | (simp_all <;> omega)) | skip)))
            refine awp_cond (t := _) rfl (fun h5 => ?_) (fun h5 => ?_)
            · simp only [decide_eq_true_eq] at h5
              have hil : i < xs.length := by omega
              have gx : (xs.map encStep).getD i [] = encStep (xs.getD i default) := getD_enc encStep xs i default hil
              have hpa := pos_at hg.pos hil
              have hps := begT_succ xs bs (ro * xs.length + i) hg.ne
              have hna := nameAt_at xs ro i hil
              have hmd : (ro * xs.length + i) % xs.length = i := by rw [Nat.mul_comm, Nat.mul_add_mod, Nat.mod_eq_of_lt hil]
              rw [hmd] at hps
              have hbt := hbd (ro * xs.length + i)
              have hbt2 := hbt.2 (by omega)
              have hhit : Hit xs bs x item (ro * xs.length + i) = ((xs.getD i default).1 == item && decide (x ≤ begT xs bs (ro * xs.length + i))) := by rw [Hit, hna]
              have hhs := fun e => hitF_some (xs := xs) (b := bs) (at_ := x) (item := item) (j := ro * xs.length + i) (by omega) e hnh2
              generalize xs.getD i default = y at gx hpa hps hhit
              have huv : untilV xs bs x item = untilV xs bs x item := rfl
              generalize hbg : begT xs bs (ro * xs.length + i) = tt at *
              clear hna hmd
              (repeat (first | refine gO (by decide) ?_ | (refine gM (mdL [(13, 1), (18, 1)]) fun K1 hK1 => ?_; simp only [go_sem, ↓reduceIte, reduceCtorEq, nA, nB, nC, nD, nE, nF, Int.toNat_natCast, gx, encStep] <;> and_intros <;> first | (apply hK1; clear hK1 K1) | (intros; first | omega | decide | (simp_all <;> omega)) | skip)))
              refine awp_cond (t := _) rfl (fun h6 => ?_) (fun h6 => ?_)
              · have hs9 := hhs (by rw [hhit]; exact h6)
                (repeat (first | refine gO (by decide) ?_ | (refine gM (mdL [(13, 1), (18, 1)]) fun K1 hK1 => ?_; simp only [go_sem, ↓reduceIte, reduceCtorEq, nA, nB, nC, nD, nE, nF] <;> and_intros <;> first | (apply hK1; clear hK1 K1) | (intros; first | omega | decide | (simp_all <;> omega)) | skip)))
                refine awp_cond (t := _) rfl (fun h7 => ?_) (fun h7 => ?_)
                · (repeat (first | refine gO (by decide) ?_ | (refine gM (mdL [(13, 1), (18, 1)]) fun K1 hK1 => ?_; simp only [go_sem, ↓reduceIte, reduceCtorEq, nA, nB, nC, nD, nE, nF] <;> and_intros <;> first | (apply hK1; clear hK1 K1) | (intros; first | omega | decide | (simp_all <;> omega)) | skip)))
                  simp only [Tryz.results26, go_sem, ↓reduceIte, reduceCtorEq, nA, nB, nC, nD, nE, nF]
                  exact ⟨_, _, Weak.refl _, Hp.le.refl _, by simp [untilV, hs9, hbg, of_decide_eq_true h7]⟩
                · (repeat (first | refine gO (by decide) ?_ | (refine gM (mdL [(13, 1), (18, 1)]) fun K1 hK1 => ?_; simp only [go_sem, ↓reduceIte, reduceCtorEq, nA, nB, nC, nD, nE, nF] <;> and_intros <;> first | (apply hK1; clear hK1 K1) | (intros; first | omega | decide | (simp_all <;> omega)) | skip)))
                  simp only [Tryz.results26, go_sem, ↓reduceIte, reduceCtorEq, nA, nB, nC, nD, nE, nF]
                  exact ⟨_, _, Weak.refl _, Hp.le.refl _, by simp [untilV, hs9, hbg, of_decide_eq_false h7]⟩
              · (repeat (first | refine gO (by decide) ?_ | (refine gM (mdL [(13, 1), (18, 1)]) fun K1 hK1 => ?_; simp only [go_sem, ↓reduceIte, reduceCtorEq, nA, nB, nC, nD, nE, nF] <;> and_intros <;> first | (apply hK1; clear hK1 K1) | (intros; first | omega | decide | (simp_all <;> omega)) | skip)))
                refine ⟨g2 - 1, by omega, i + 1, by omega, fun q hq => ?_, by rw [← Nat.add_assoc, hps]; rfl⟩
                by_cases e9 : q = ro * xs.length + i
                · rw [e9, hhit]; exact h6
                · exact hnh2 q (by omega)
            · simp only [decide_eq_false_iff_not] at h5
              have hil : i = xs.length := by omega
              subst hil
              (repeat (first | refine gO (by decide) ?_ | (refine gM (mdL [(13, 1), (18, 1)]) fun K1 hK1 => ?_; simp only [go_sem, ↓reduceIte, reduceCtorEq, nA, nB, nC, nD, nE, nF] <;> and_intros <;> first | (apply hK1; clear hK1 K1) | (intros; first | omega | decide | (simp_all <;> omega)) | skip)))
              exact ⟨g - 1, by omega, ro + 1, by omega, fun i hi => hnh2 i (by omega), by rw [hT1]; rfl⟩
          · simp only [decide_eq_false_iff_not] at h3
            have hr2 : ro = 2 := by omega
            subst hr2
            have hn9 := hitF_none hnh
            (repeat (first | refine gO (by decide) ?_ | (refine gM (mdL [(13, 1), (18, 1)]) fun K1 hK1 => ?_; simp only [go_sem, ↓reduceIte, reduceCtorEq, nA, nB, nC, nD, nE, nF] <;> and_intros <;> first | (apply hK1; clear hK1 K1) | (intros; first | omega | decide | (simp_all <;> omega)) | skip)))
            simp only [Tryz.results26, go_sem, ↓reduceIte, reduceCtorEq, nA, nB, nC, nD, nE, nF]
            exact ⟨_, _, Weak.refl _, Hp.le.refl _, by simp [untilV, hn9]⟩
        · have hb9 : (e != 0) = true := by simpa using he
          refine awp_cond (t := _) rfl (fun _ => ?_) (fun h9 => by rw [hb9] at h9; cases h9)
          (repeat (first | refine gO (by decide) ?_ | (refine gM (mdL [(13, 1), (18, 1)]) fun K1 hK1 => ?_; simp only [go_sem, ↓reduceIte, reduceCtorEq, nA, nB, nC, nD, nE, nF] <;> and_intros <;> first | (apply hK1; clear hK1 K1) | (intros; first | omega | decide | (simp_all <;> omega)) | skip)))
          simp only [Tryz.results26, go_sem, ↓reduceIte, reduceCtorEq, nA, nB, nC, nD, nE, nF]
          exact ⟨_, _, Weak.refl _, Hp.le.refl _, fun _ => by simp [orI], fun h9 => by simp [orI] at h9; exact absurd (h9 he) he⟩
      · have hb9 : (timeE a x != 0) = true := by simpa using ht
        generalize timeE a x = e at *
        refine awp_cond (t := _) rfl (fun _ => ?_) (fun h9 => by rw [hb9] at h9; cases h9)
        (repeat (first | refine gO (by decide) ?_ | (refine gM (mdL [(13, 1), (18, 1)]) fun K1 hK1 => ?_; simp only [go_sem, ↓reduceIte, reduceCtorEq, nA, nB, nC, nD, nE, nF] <;> and_intros <;> first | (apply hK1; clear hK1 K1) | (intros; first | omega | decide | (simp_all <;> omega)) | skip)))
        simp only [Tryz.results26, go_sem, ↓reduceIte, reduceCtorEq, nA, nB, nC, nD, nE, nF]
        exact ⟨_, _, Weak.refl _, Hp.le.refl _, fun _ => by simp [orI, ht], fun h9 => by simp [orI, ht] at h9⟩
  · have hb9 : (faultF t != 0) = true := by simpa using hf
    refine awp_cond (t := _) rfl (fun _ => ?_) (fun h9 => by rw [hb9] at h9; cases h9)
    (repeat (first | refine gO (by decide) ?_ | (refine gM (mdL [(13, 1), (18, 1)]) fun K1 hK1 => ?_; simp only [go_sem, ↓reduceIte, reduceCtorEq, nA, nB, nC, nD, nE, nF] <;> and_intros <;> first | (apply hK1; clear hK1 K1) | (intros; first | omega | decide | (simp_all <;> omega)) | skip)))
    simp only [Tryz.results26, go_sem, ↓reduceIte, reduceCtorEq, nA, nB, nC, nD, nE, nF]
    exact ⟨_, _, Weak.refl _, Hp.le.refl _, fun _ => by simp [orI, hf], fun h9 => by simp [orI, hf] at h9⟩
def nextW (xs : List (ByteArray × Int)) (bs x : Int) (item : ByteArray) : Int := match hitF xs bs x item with
  | some j => begT xs bs j
  | none => -1
theorem g_nextOf (xs : List (ByteArray × Int)) (a x : Int) (item : ByteArray) (h : Hp) (hg : GoodS xs) (h0 : 0 ≤ a ∧ a ≤ x) (h1 : x < 345686400000) : ACalls Tryz.prog 31 [.row 2 (xs.map encStep) none, .v (.int .i64 a), .v (.int .i64 x), .v (.string item)] h
    (fun r _ => r = .v (.int .i64 (nextW xs (baseT xs a x) x item))) := by
  have hnl := List.length_pos_iff.2 hg.ne
  have hgl := hg.len
  have hbl := base_le hg.pos hg.ne h0.2
  have hsb := sumL_bd hg.pos
  have hol := onceS_len (xs.map (·.1))
  rw [List.length_map] at hol
  have hco := fun h => g_contains (onceS (xs.map (·.1))) item h (by omega)
  have hmem : inB item (onceS (xs.map (·.1))) = true ↔ item ∈ xs.map (·.1) := inB_true.trans (onceS_mem _ _)
  refine gE Tryz.func31 rfl (by kernel_rfl) 33 rfl fun c => ?_
  (repeat (first | refine gO (by decide) ?_ | (refine gM (mdL [(9, 1)]) fun K1 hK1 => ?_; simp only [go_sem, ↓reduceIte, reduceCtorEq, nA, nB, nC, nD, nE, nF] <;> and_intros <;> first | (apply hK1; clear hK1 K1) | (intros; first | omega | decide | (simp_all <;> omega)) | skip)))
  refine (g_itemsOf xs h hnl hgl).mono ?_
  rintro _ h3 ⟨rfl, _⟩
  refine hK1 _ ?_; clear hK1 K1
  (repeat (first | refine gO (by decide) ?_ | (refine gM (mdL [(9, 1)]) fun K1 hK1 => ?_; simp only [go_sem, ↓reduceIte, reduceCtorEq, nA, nB, nC, nD, nE, nF] <;> and_intros <;> first | (apply hK1; clear hK1 K1) | (intros; first | omega | decide | (simp_all <;> omega)) | skip)))
  refine (hco _).mono ?_; rintro _ hz ⟨rfl, hh⟩; apply hK1; clear hK1 K1; rw [hh]; clear hh hz
  clear hco
  cases hc : inB item (onceS (xs.map (·.1))) with
  | false =>
    have hno : item ∉ xs.map (·.1) := fun e => by rw [hmem.2 e] at hc; cases hc
    have hh : hitF xs (baseT xs a x) x item = none := hitF_none fun i _ => no_hit hno hg.ne i
    (repeat (first | refine gO (by decide) ?_ | (refine gM (mdL [(9, 1)]) fun K1 hK1 => ?_; simp only [go_sem, ↓reduceIte, reduceCtorEq, nA, nB, nC, nD, nE, nF] <;> and_intros <;> first | (apply hK1; clear hK1 K1) | (intros; first | omega | decide | (simp_all <;> omega)) | skip)))
    refine awp_cond (t := _) rfl (fun _ => ?_) (fun h9 => by cases h9)
    (repeat (first | refine gO (by decide) ?_ | (refine gM (mdL [(9, 1)]) fun K1 hK1 => ?_; simp only [go_sem, ↓reduceIte, reduceCtorEq, nA, nB, nC, nD, nE, nF] <;> and_intros <;> first | (apply hK1; clear hK1 K1) | (intros; first | omega | decide | (simp_all <;> omega)) | skip)))
    simp only [Tryz.results31, go_sem, ↓reduceIte, reduceCtorEq, nA, nB, nC, nD, nE, nF]
    exact ⟨_, _, Weak.refl _, Hp.le.refl _, by rw [nextW, hh]⟩
  | true =>
    have hin := hmem.1 hc
    obtain ⟨jm, hjm, hhm, hjb, hnm⟩ : ∃ jm, hitF xs (baseT xs a x) x item = some jm ∧ Hit xs (baseT xs a x) x item jm = true ∧ jm < 2 * xs.length ∧ ∀ i, i < jm → Hit xs (baseT xs a x) x item i = false := by
      cases hh : hitF xs (baseT xs a x) x item with
      | none =>
        obtain ⟨j, hj, hjh⟩ := hit_ex hg.pos (b := baseT xs a x) (at_ := x) (by omega) hin
        rw [hitF, List.find?_range_eq_none] at hh
        have := hh j hj
        rw [hjh] at this; cases this
      | some jm =>
        have hh2 := hh
        rw [hitF, List.find?_range_eq_some] at hh2
        exact ⟨jm, rfl, hh2.1, by simpa using hh2.2.1, fun i hi => by simpa using hh2.2.2 i hi⟩
    have hnv : nextW xs (baseT xs a x) x item = begT xs (baseT xs a x) jm := by rw [nextW, hjm]
    rw [hnv]
    obtain ⟨j0, hj0, hf1, hf2⟩ := first_at hg.pos hg.ne h0.2
    have hj0m : j0 ≤ jm := by
      rcases Nat.lt_or_ge jm j0 with e | e
      · rw [no_hit_before hg.pos hg.ne hf1 item jm e] at hhm; cases hhm
      · exact e
    have hsa := fun {y : Int} {j : Nat} h1 h2 => step_at hg.pos hg.ne (x := y) h0.2 (j := j) h1 h2
    have hbd := begT_bd hg.pos hg.ne (baseT xs a x)
    generalize baseT xs a x = bs at *
    (repeat (first | refine gO (by decide) ?_ | (refine gM (mdL [(9, 1)]) fun K1 hK1 => ?_; simp only [go_sem, ↓reduceIte, reduceCtorEq, nA, nB, nC, nD, nE, nF] <;> and_intros <;> first | (apply hK1; clear hK1 K1) | (intros; first | omega | decide | (simp_all <;> omega)) | skip)))
    refine awp_cond (t := _) rfl (fun h9 => by cases h9) (fun _ => ?_)
    (repeat (first | refine gO (by decide) ?_ | (refine gM (mdL [(9, 1)]) fun K1 hK1 => ?_; simp only [go_sem, ↓reduceIte, reduceCtorEq, nA, nB, nC, nD, nE, nF] <;> and_intros <;> first | (apply hK1; clear hK1 K1) | (intros; first | omega | decide | (simp_all <;> omega)) | skip)))
    refine awp_loopC (rl false [0, 4, 33]) 0 (fun g s => ∃ (j : Nat) (y : Int), g + j = jm ∧ begT xs bs j ≤ y ∧ y < begT xs bs (j + 1) ∧ x ≤ y ∧ (y = x ∨ y = begT xs bs j) ∧
      s = ⟨((.row 2 (xs.map encStep) none) :: (.v (.int .i64 a)) :: (.v (.int .i64 y)) :: (.v (.string item)) :: (jnk 33 [])), [], h3⟩) (jm - j0) ⟨j0, x, by omega, hf1, hf2, by omega, .inl rfl, rfl⟩ ?_
    rintro g _ ⟨j, y, hj, hy1, hy2, hy3, hy4, rfl⟩
    have hb1 := (hbd (j + 1)).2 (by omega)
    obtain ⟨e1, e2⟩ := hsa hy1 hy2
    have hst := g_stepAt xs a y h3 hg ⟨h0.1, by omega⟩ (by omega)
    rw [e1, e2] at hst
    have hbs := begT_succ xs bs j hg.ne
    have hps := pos_at hg.pos (Nat.mod_lt j hnl)
    have hhit : Hit xs bs x item j = ((xs.getD (j % xs.length) default).1 == item && decide (x ≤ begT xs bs j)) := rfl
    clear e1 e2 hsa
    generalize xs.getD (j % xs.length) default = z at *
    (repeat (first | refine gO (by decide) ?_ | (refine gM (mdL [(9, 1)]) fun K1 hK1 => ?_; simp only [go_sem, ↓reduceIte, reduceCtorEq, nA, nB, nC, nD, nE, nF] <;> and_intros <;> first | (apply hK1; clear hK1 K1) | (intros; first | omega | decide | (simp_all <;> omega)) | skip)))
    refine hst.mono ?_; rintro _ hz ⟨rfl, hh⟩; apply hK1; clear hK1 K1; rw [hh]; clear hh hz
    (repeat (first | refine gO (by decide) ?_ | (refine gM (mdL [(9, 1)]) fun K1 hK1 => ?_; simp only [go_sem, ↓reduceIte, reduceCtorEq, nA, nB, nC, nD, nE, nF, encStep] <;> and_intros <;> first | (apply hK1; clear hK1 K1) | (intros; first | omega | decide | (simp_all <;> omega)) | skip)))
    refine awp_cond (t := _) rfl (fun h6 => ?_) (fun h6 => ?_)
    · rw [Bool.and_eq_true] at h6
      obtain ⟨h7, h8⟩ := h6
      have h9 : begT xs bs j = y := by simpa using h7
      have hH : Hit xs bs x item j = true := by rw [hhit, h8, Bool.true_and, decide_eq_true_eq]; omega
      have hje : j = jm := by
        rcases Nat.lt_or_ge j jm with e | e
        · rw [hnm j e] at hH; cases hH
        · omega
      (repeat (first | refine gO (by decide) ?_ | (refine gM (mdL [(9, 1)]) fun K1 hK1 => ?_; simp only [go_sem, ↓reduceIte, reduceCtorEq, nA, nB, nC, nD, nE, nF] <;> and_intros <;> first | (apply hK1; clear hK1 K1) | (intros; first | omega | decide | (simp_all <;> omega)) | skip)))
      simp only [Tryz.results31, go_sem, ↓reduceIte, reduceCtorEq, nA, nB, nC, nD, nE, nF]
      exact ⟨_, _, Weak.refl _, Hp.le.refl _, by rw [← hje, h9]⟩
    · have hjl : j < jm := by
        rcases Nat.lt_or_ge j jm with e | e
        · exact e
        · exfalso
          obtain rfl : j = jm := by omega
          rw [hhit, Bool.and_eq_true, decide_eq_true_eq] at hhm
          have h9 : begT xs bs j = y := by rcases hy4 with e9 | e9 <;> omega
          rw [hhm.1, h9] at h6
          simp at h6
      have hbs2 := begT_succ xs bs (j + 1) hg.ne
      have hps2 := pos_at hg.pos (Nat.mod_lt (j + 1) hnl)
      (repeat (first | refine gO (by decide) ?_ | (refine gM (mdL [(9, 1)]) fun K1 hK1 => ?_; simp only [go_sem, ↓reduceIte, reduceCtorEq, nA, nB, nC, nD, nE, nF] <;> and_intros <;> first | (apply hK1; clear hK1 K1) | (intros; first | omega | decide | (simp_all <;> omega)) | skip)))
      exact ⟨g - 1, by omega, j + 1, begT xs bs (j + 1), by omega, Int.le_refl _, by omega, by omega, .inr rfl, by rw [hbs]; rfl⟩
theorem row_cells {G : Gh} {z : Nat} {xs : List (List AV)} {k : Option Nat} {v : Value} (h : Rep G (.row z xs k) v) (hn : 0 < xs.length) : ∃ g o c, v = .slice (some ⟨g, o, none⟩) xs.length c ∧ ∀ i (hi : i < xs.length) j, j < z → ∀ a, xs[i][j]? = some (.v a) → G.val g (o + (i * z + j)) = some a := by
  rcases Rep.row_inv h with ⟨a, _, rfl⟩ | ⟨g, o, c, us, rfl, hc, hz, hr, hu⟩
  · simp at hn
  · refine ⟨g, o, c, rfl, fun i hi j hj a ha => hu _ _ ?_⟩
    have e1 := flatten_at hz hi hj
    rw [ha] at e1
    have hlt := (List.getElem?_eq_some_iff.1 e1).1
    have hlu : i * z + j < us.length := by rw [hr.1]; exact hlt
    have h2 := (hr.2 _ hlt hlu).1
    rw [(List.getElem?_eq_some_iff.1 e1).2] at h2
    rw [List.getElem?_eq_getElem hlu]
    generalize us[i * z + j] = y at h2
    cases h2; rfl
theorem g_equalPn (xs : List (ByteArray × Int)) (N : List ByteArray) (h : Hp) (h0 : 0 < N.length) (hl : N.length ≤ 100000) : ACalls Tryz.prog 23 [.row 5 (N.map (encPn xs)) none, .row 5 (N.map (encPn xs)) none] h (fun r h' => r = .v (.bool true) ∧ h' = h) := by
  refine acalls_mk (by kernel_rfl) fun G w vs hs hv ha => ?_
  have r0 := ha 0 (by simp)
  have r1 := ha 1 (by simp)
  have hvs : vs = #[vs.getD 0 undef, vs.getD 1 undef] := by
    have hv2 : vs.size = 2 := hv
    apply Array.ext (by simpa using hv2)
    intro j hj hj'
    simp only [List.size_toArray, List.length_cons, List.length_nil] at hj'
    match j, hj' with
    | 0, _ => simp [Array.getD, hv2]
    | 1, _ => simp [Array.getD, hv2]
    | j + 2, h => omega
  rw [hvs]
  generalize vs.getD 0 undef = v0 at *
  generalize vs.getD 1 undef = v1 at *
  simp only [List.getElem_cons_zero, List.getElem_cons_succ] at r0 r1
  obtain ⟨g, o, c, rfl, hc⟩ := row_cells r0 (by simpa using h0)
  obtain ⟨g', o', c', rfl, hc'⟩ := row_cells r1 (by simpa using h0)
  rw [List.length_map]
  have key : ∀ {g o : Nat}, (∀ i (hi : i < (N.map (encPn xs)).length) j, j < 5 → ∀ a, (N.map (encPn xs))[i][j]? = some (.v a) → G.val g (o + (i * 5 + j)) = some a) →
      PnCells w g o N.length (fun k => N.getD k default) (fun k => (cntF xs (N.getD k default) / Nat.gcd (cntF xs (N.getD k default)) xs.length : Nat)) (fun k => (xs.length / Nat.gcd (cntF xs (N.getD k default)) xs.length : Nat))
        (fun k => ((longF xs (N.getD k default)).toNat / Nat.gcd (longF xs (N.getD k default)).toNat (sumL xs).toNat : Nat)) (fun k => ((sumL xs).toNat / Nat.gcd (longF xs (N.getD k default)).toNat (sumL xs).toNat : Nat)) := fun {g o} hc k hk => by
    have hk' : k < (N.map (encPn xs)).length := by simpa using hk
    have e : (N.map (encPn xs))[k] = encPn xs (N.getD k default) := by
      rw [List.getElem_map, List.getD_eq_getElem?_getD, List.getElem?_eq_getElem hk]; rfl
    have hcc := hc k hk'
    rw [e] at hcc
    exact ⟨hs.cell _ _ _ (hcc 0 (by omega) _ rfl), hs.cell _ _ _ (hcc 1 (by omega) _ rfl), hs.cell _ _ _ (hcc 2 (by omega) _ rfl), hs.cell _ _ _ (hcc 3 (by omega) _ rfl), hs.cell _ _ _ (hcc 4 (by omega) _ rfl)⟩
  refine (equalP_same g o g' o' N.length c c' _ _ _ _ _ w (by omega) (key hc) (key hc')).mono ?_
  rintro _ _ ⟨rfl, q, rfl⟩
  exact ⟨_, rfl, _, h, G, ⟨rfl, rfl⟩, GLe.refl _, Fr.below (Fr.refl _ _ _) (fun _ _ => rfl) rfl rfl rfl (Nat.le_refl _), hs.below (fun _ _ => rfl), .v _ rfl⟩
theorem g_cloneNil32 (h : Hp) : ACalls Tryz.prog 68 [.v (.slice none 0 0)] h (fun r h' => r = .v (.slice none 0 0) ∧ h' = h) := by
  refine gE Tryz.func68 rfl (by kernel_rfl) 7 rfl fun c => ?_
  (repeat (first | refine gO (by decide) ?_ | (refine gM (mdL [(5, 2)]) fun K1 hK1 => ?_; simp only [go_sem, ↓reduceIte, reduceCtorEq, nA, nB, nC, nD, nE, nF] <;> and_intros <;> first | (apply hK1; clear hK1 K1) | (intros; first | omega | decide | (simp_all <;> omega)) | skip)))
  refine awp_cond (t := _) rfl (fun _ => ?_) (fun h1 => by cases h1)
  (repeat (first | refine gO (by decide) ?_ | (refine gM (mdL [(5, 2)]) fun K1 hK1 => ?_; simp only [go_sem, ↓reduceIte, reduceCtorEq, nA, nB, nC, nD, nE, nF] <;> and_intros <;> first | (apply hK1; clear hK1 K1) | (intros; first | omega | decide | (simp_all <;> omega)) | skip)))
  simp only [Tryz.results68, go_sem, ↓reduceIte, reduceCtorEq, nA, nB, nC, nD, nE, nF]
  exact ⟨_, _, Weak.refl _, Hp.le.refl _, rfl, rfl⟩
theorem g_clone32 (x : List AV) (xs : List (List AV)) (k : Option Nat) (h : Hp) (hb : xs.length ≤ 1000) : ACalls Tryz.prog 68 [.row 1 (x :: xs) k] h (fun r h' => ∃ q, h.T q = none ∧ r = .row 1 (x :: xs) (some q) ∧ h' = { h with T := upd h.T q (some (.tail (xs.length + 1))) }) := by
  refine gE Tryz.func68 rfl (by kernel_rfl) 7 rfl fun c => ?_
  (repeat (first | refine gO (by decide) ?_ | (refine gM (mdL [(5, 2)]) fun K1 hK1 => ?_; simp only [go_sem, ↓reduceIte, reduceCtorEq, nA, nB, nC, nD, nE, nF] <;> and_intros <;> first | (apply hK1; clear hK1 K1) | (intros; first | omega | decide | (simp_all <;> omega)) | skip)))
  refine awp_cond (t := _) rfl (fun h1 => by cases h1) (fun _ => ?_)
  (repeat (first | refine gO (by decide) ?_ | (refine gM (mdL [(5, 2)]) fun K1 hK1 => ?_; simp only [go_sem, ↓reduceIte, reduceCtorEq, nA, nB, nC, nD, nE, nF] <;> and_intros <;> first | (apply hK1; clear hK1 K1) | (intros; first | omega | decide | (simp_all <;> omega)) | skip)))
  intro q hq
  and_intros <;> first | (refine hK1 _ ?_; clear hK1 K1) | exact .inl trivial | exact .inr rfl | exact .inr True.intro | exact True.intro | omega
  (repeat (first | refine gO (by decide) ?_ | (refine gM (mdL [(5, 2)]) fun K1 hK1 => ?_; simp only [go_sem, ↓reduceIte, reduceCtorEq, nA, nB, nC, nD, nE, nF] <;> and_intros <;> first | (apply hK1; clear hK1 K1) | (intros; first | omega | decide | (simp_all <;> omega)) | skip)))
  simp only [Tryz.results68, go_sem, ↓reduceIte, reduceCtorEq, nA, nB, nC, nD, nE, nF]
  exact ⟨_, _, Weak.refl _, Hp.le.refl _, q, hq, rfl, rfl⟩
theorem g_cloneNil33 (h : Hp) : ACalls Tryz.prog 117 [.v (.slice none 0 0)] h (fun r h' => r = .v (.slice none 0 0) ∧ h' = h) := by
  refine gE Tryz.func117 rfl (by kernel_rfl) 7 rfl fun c => ?_
  (repeat (first | refine gO (by decide) ?_ | (refine gM (mdL [(5, 1)]) fun K1 hK1 => ?_; simp only [go_sem, ↓reduceIte, reduceCtorEq, nA, nB, nC, nD, nE, nF] <;> and_intros <;> first | (apply hK1; clear hK1 K1) | (intros; first | omega | decide | (simp_all <;> omega)) | skip)))
  refine awp_cond (t := _) rfl (fun _ => ?_) (fun h1 => by cases h1)
  (repeat (first | refine gO (by decide) ?_ | (refine gM (mdL [(5, 1)]) fun K1 hK1 => ?_; simp only [go_sem, ↓reduceIte, reduceCtorEq, nA, nB, nC, nD, nE, nF] <;> and_intros <;> first | (apply hK1; clear hK1 K1) | (intros; first | omega | decide | (simp_all <;> omega)) | skip)))
  simp only [Tryz.results117, go_sem, ↓reduceIte, reduceCtorEq, nA, nB, nC, nD, nE, nF]
  exact ⟨_, _, Weak.refl _, Hp.le.refl _, rfl, rfl⟩
theorem g_clone33 (x : List AV) (xs : List (List AV)) (k : Option Nat) (h : Hp) (hb : xs.length ≤ 1000) : ACalls Tryz.prog 117 [.row 6 (x :: xs) k] h (fun r h' => ∃ q, h.T q = none ∧ r = .arr 6 q (xs.length + 1) ∧ h' = { h with T := upd h.T q (some (.cont 6 (x :: xs))) }) := by
  refine gE Tryz.func117 rfl (by kernel_rfl) 7 rfl fun c => ?_
  (repeat (first | refine gO (by decide) ?_ | (refine gM (mdL [(5, 1)]) fun K1 hK1 => ?_; simp only [go_sem, ↓reduceIte, reduceCtorEq, nA, nB, nC, nD, nE, nF] <;> and_intros <;> first | (apply hK1; clear hK1 K1) | (intros; first | omega | decide | (simp_all <;> omega)) | skip)))
  refine awp_cond (t := _) rfl (fun h1 => by cases h1) (fun _ => ?_)
  (repeat (first | refine gO (by decide) ?_ | (refine gM (mdL [(5, 1)]) fun K1 hK1 => ?_; simp only [go_sem, ↓reduceIte, reduceCtorEq, nA, nB, nC, nD, nE, nF] <;> and_intros <;> first | (apply hK1; clear hK1 K1) | (intros; first | omega | decide | (simp_all <;> omega)) | skip)))
  intro q hq
  and_intros <;> first | (refine hK1 _ ?_; clear hK1 K1) | exact .inl trivial | exact .inr rfl | exact .inr True.intro | exact True.intro | omega
  (repeat (first | refine gO (by decide) ?_ | (refine gM (mdL [(5, 1)]) fun K1 hK1 => ?_; simp only [go_sem, ↓reduceIte, reduceCtorEq, nA, nB, nC, nD, nE, nF] <;> and_intros <;> first | (apply hK1; clear hK1 K1) | (intros; first | omega | decide | (simp_all <;> omega)) | skip)))
  simp only [Tryz.results117, go_sem, ↓reduceIte, reduceCtorEq, nA, nB, nC, nD, nE, nF]
  exact ⟨_, _, Weak.refl _, Hp.le.refl _, q, hq, rfl, rfl⟩
theorem g_cloneS (xs : List Int) (h : Hp) (hb : xs.length ≤ 1000) : ACalls Tryz.prog 68 [nilOr 1 (xs.map encI)] h (fun r h' => ∃ T', (∀ k, h.T k ≠ none → T' k = h.T k) ∧ h' = ⟨h.H, T'⟩ ∧
    (r = .v (.slice none 0 0) ∨ ∃ k, h.T k = none ∧ r = .row 1 (xs.map encI) (some k) ∧ T' k = some (.tail xs.length))) := by
  cases xs with
  | nil => exact (g_cloneNil32 h).mono fun r h' ⟨e, e'⟩ => ⟨h.T, fun _ _ => rfl, e', .inl e⟩
  | cons x xs =>
    refine (g_clone32 (encI x) (xs.map encI) none h (by simp at hb ⊢; omega)).mono ?_
    rintro r h' ⟨q, hq, rfl, rfl⟩
    exact ⟨_, fun k hk => upd_other _ _ (fun e => hk (e ▸ hq)), rfl, .inr ⟨q, hq, rfl, by rw [upd_same]; simp⟩⟩
theorem g_cloneK (ts : List LT) (h : Hp) (hb : ts.length ≤ 1000) : ACalls Tryz.prog 117 [nilOr 6 (ts.map encX)] h (fun r h' => ts = [] ∧ r = .v (.slice none 0 0) ∧ h' = h ∨ ∃ q, ts ≠ [] ∧ h.T q = none ∧ r = .arr 6 q ts.length ∧ h' = { h with T := upd h.T q (some (.cont 6 (ts.map encX))) }) := by
  cases ts with
  | nil => exact (g_cloneNil33 h).mono fun r h' ⟨e, e'⟩ => .inl ⟨rfl, e, e'⟩
  | cons x xs =>
    refine (g_clone33 (encX x) (xs.map encX) none h (by simp at hb ⊢; omega)).mono ?_
    rintro r h' ⟨q, hq, rfl, rfl⟩
    exact .inr ⟨q, by simp, hq, by simp, rfl⟩
abbrev pSCopied_62_6E : List Nat := [0, 1, 2, 3, 4, 5, 6, 7]
abbrev pSCopied_62_6P : List (Nat × List Nat × List Nat) := [(8, [1], [9]), (10, [], [])]
attribute [go_sem] pSCopied_62_6E pSCopied_62_6P
def CopI (d : Nat) (kind : Int) (item : ByteArray) (long many : Int) (kids : List LT) (shares : List Int) (r : AV) (q : Nat) (h : Hp) (g : Nat) (s : St) : Prop :=
  ∃ (j : Nat) (T2 : Nat → Option TO) (css : List (List AV)), g + j = kids.length ∧ css.length = kids.length ∧ T2 q = some (.cont 6 css) ∧ (∀ i, i < j → OLd true T2 (fun k => h.T k = none ∧ k ≠ q) d (css.getD i [])) ∧ (∀ i, j ≤ i → i < kids.length → css.getD i [] = encX (kids.getD i default)) ∧
    (∀ k, h.T k ≠ none → T2 k = h.T k) ∧ (r = .v (.slice none 0 0) ∨ ∃ k, h.T k = none ∧ r = .row 1 (shares.map encI) (some k) ∧ T2 k = some (.tail shares.length)) ∧
    s = ⟨(AV.junk :: ((.loc 0 0) :: (.loc 1 0) :: (jnk 11 ((.v (.int .i64 kids.length)) :: (.v (.int .i64 j)) :: (jnk 14 []))))),
      [[.v (.int .i64 kind), .v (.string item), .v (.int .i64 long), .v (.int .i64 many), .arr 6 q kids.length, r], [.v (.int .i64 0), .v (.string { data := #[] }), .v (.int .i64 0), .v (.int .i64 0), .v (.slice none 0 0), .v (.slice none 0 0)]], ⟨h.H, T2⟩⟩
theorem g_copied : ∀ (d : Nat) (t : LT) (h : Hp), LB d t → ACalls Tryz.prog 62 [.agg (encX t)] h (fun r h' => ∃ cs T', OLd true T' (fun k => h.T k = none) d cs ∧ (∀ k, h.T k ≠ none → T' k = h.T k) ∧ r = .agg cs ∧ h' = ⟨h.H, T'⟩)
  | 0, _, _, hb => hb.elim
  | d + 1, .mk kind item long many kids shares, h, hb => by
    obtain ⟨b1, b2, b3, b4, b5, b6, b7, b8⟩ := hb
    rw [encX_eq]
    have o1 := nilOr_one 1 (shares.map encI)
    have o2 := nilOr_one 6 (kids.map encX)
    obtain ⟨u1, u2, u3, u4, u5⟩ := o1
    unfold uside at u1; unfold unw at u2; unfold AV.noLoc at u3; unfold isOpt at u4; simp only [AV.cellsB, Value.oneCell'] at u5
    obtain ⟨v1, v2, v3, v4, v5⟩ := o2
    unfold uside at v1; unfold unw at v2; unfold AV.noLoc at v3; unfold isOpt at v4; simp only [AV.cellsB, Value.oneCell'] at v5
    refine gE Tryz.func62 rfl (by kernel_rfl) 29 rfl fun c => ?_
    (repeat (first | refine gO (by decide) ?_ | ((first | refine gM (mdL [(1, 1), (2, 1)]) ?_ | (with_reducible refine wM ?_ ?_) | ((with_reducible refine xR ?_); refine uE 6 (mdL [(1, 1), (2, 1)]) pSCopied_62_6E pSCopied_62_6P 30 rfl (by kernel_rfl) ?_)) <;> ((try with_reducible intro K1 hK1); simp only [go_sem, ↓reduceIte, reduceCtorEq, nA, nB, nC, nD, nE, nF, u1, u2, u3, u4, u5, v1, v2, v3, v4, v5] <;> and_intros <;> first | (apply hK1; clear hK1 K1) | (intros; first | omega | decide | (simp_all <;> omega)) | skip))))
    refine (g_cloneS shares _ (by omega)).mono ?_
    rintro r _ ⟨T1, hT1, rfl, hS⟩
    have o3 : OneV r := by rcases hS with rfl | ⟨k, _, rfl, _⟩ <;> exact ⟨rfl, rfl, rfl, rfl, rfl⟩
    obtain ⟨w1, w2, w3, w4, w5⟩ := o3
    unfold uside at w1; unfold unw at w2; unfold AV.noLoc at w3; unfold isOpt at w4; simp only [AV.cellsB, Value.oneCell'] at w5
    refine hK1 _ ?_; clear hK1 K1
    (repeat (first | refine gO (by decide) ?_ | ((first | refine gM (mdL [(1, 1), (2, 1)]) ?_ | (with_reducible refine wM ?_ ?_) | ((with_reducible refine xR ?_); refine uE 6 (mdL [(1, 1), (2, 1)]) pSCopied_62_6E pSCopied_62_6P 30 rfl (by kernel_rfl) ?_)) <;> ((try with_reducible intro K1 hK1); simp only [go_sem, ↓reduceIte, reduceCtorEq, nA, nB, nC, nD, nE, nF, u1, u2, u3, u4, u5, v1, v2, v3, v4, v5, w1, w2, w3, w4, w5] <;> and_intros <;> first | (apply hK1; clear hK1 K1) | (intros; first | omega | decide | (simp_all <;> omega)) | skip))))
    refine (g_cloneK kids _ (by omega)).mono ?_
    rintro r2 _ (⟨hk0, rfl, rfl⟩ | ⟨q, hq0, hq, rfl, rfl⟩)
    · refine hK1 _ ?_; clear hK1 K1
      (repeat (first | refine gO (by decide) ?_ | ((first | refine gM (mdL [(1, 1), (2, 1)]) ?_ | (with_reducible refine wM ?_ ?_) | ((with_reducible refine xR ?_); refine uE 6 (mdL [(1, 1), (2, 1)]) pSCopied_62_6E pSCopied_62_6P 30 rfl (by kernel_rfl) ?_)) <;> ((try with_reducible intro K1 hK1); simp only [go_sem, ↓reduceIte, reduceCtorEq, nA, nB, nC, nD, nE, nF, u1, u2, u3, u4, u5, v1, v2, v3, v4, v5, w1, w2, w3, w4, w5] <;> and_intros <;> first | (apply hK1; clear hK1 K1) | (intros; first | omega | decide | (simp_all <;> omega)) | skip))))
      refine awp_loopC (rl false [1, 2, 11, 2, 14]) 2 (fun g s => s = ⟨(AV.junk :: ((.loc 0 0) :: (.loc 1 0) :: (jnk 11 ((.v (.int .i64 0)) :: (.v (.int .i64 0)) :: (jnk 14 []))))),
        [[.v (.int .i64 kind), .v (.string item), .v (.int .i64 long), .v (.int .i64 many), .v (.slice none 0 0), r], [.v (.int .i64 0), .v (.string { data := #[] }), .v (.int .i64 0), .v (.int .i64 0), .v (.slice none 0 0), .v (.slice none 0 0)]], ⟨h.H, T1⟩⟩) 0 rfl ?_
      rintro n _ rfl
      (repeat (first | refine gO (by decide) ?_ | ((first | refine gM (mdL [(1, 1), (2, 1)]) ?_ | (with_reducible refine wM ?_ ?_) | ((with_reducible refine xR ?_); refine uE 6 (mdL [(1, 1), (2, 1)]) pSCopied_62_6E pSCopied_62_6P 30 rfl (by kernel_rfl) ?_)) <;> ((try with_reducible intro K1 hK1); simp only [go_sem, ↓reduceIte, reduceCtorEq, nA, nB, nC, nD, nE, nF, u1, u2, u3, u4, u5, v1, v2, v3, v4, v5, w1, w2, w3, w4, w5] <;> and_intros <;> first | (apply hK1; clear hK1 K1) | (intros; first | omega | decide | (simp_all <;> omega)) | skip))))
      refine awp_cond (t := _) rfl (fun h1 => by cases h1) (fun _ => ?_)
      (repeat (first | refine gO (by decide) ?_ | ((first | refine gM (mdL [(1, 1), (2, 1)]) ?_ | (with_reducible refine wM ?_ ?_) | ((with_reducible refine xR ?_); refine uE 6 (mdL [(1, 1), (2, 1)]) pSCopied_62_6E pSCopied_62_6P 30 rfl (by kernel_rfl) ?_)) <;> ((try with_reducible intro K1 hK1); simp only [go_sem, ↓reduceIte, reduceCtorEq, nA, nB, nC, nD, nE, nF, u1, u2, u3, u4, u5, v1, v2, v3, v4, v5, w1, w2, w3, w4, w5] <;> and_intros <;> first | (apply hK1; clear hK1 K1) | (intros; first | omega | decide | (simp_all <;> omega)) | skip))))
      simp only [Tryz.results62, go_sem, ↓reduceIte, reduceCtorEq, nA, nB, nC, nD, nE, nF, u1, u2, u3, u4, u5, v1, v2, v3, v4, v5, w1, w2, w3, w4, w5]
      refine ⟨_, _, Weak.refl _, Hp.le.refl _, _, T1, ⟨kind, item, long, many, .v (.slice none 0 0), r, rfl, ⟨b1, b2, b3, b4⟩, .inl rfl, ?_⟩, hT1, rfl, rfl⟩
      rcases hS with e | ⟨k, hk, e, hk2⟩
      · exact .inl e
      · exact .inr ⟨shares, k, e, by omega, b7, fun _ => ⟨hk, hk2, b6⟩⟩
    · refine hK1 _ ?_; clear hK1 K1
      have hq : T1 q = none := hq
      (repeat (first | refine gO (by decide) ?_ | ((first | refine gM (mdL [(1, 1), (2, 1)]) ?_ | (with_reducible refine wM ?_ ?_) | ((with_reducible refine xR ?_); refine uE 6 (mdL [(1, 1), (2, 1)]) pSCopied_62_6E pSCopied_62_6P 30 rfl (by kernel_rfl) ?_)) <;> ((try with_reducible intro K1 hK1); simp only [go_sem, ↓reduceIte, reduceCtorEq, nA, nB, nC, nD, nE, nF, u1, u2, u3, u4, u5, v1, v2, v3, v4, v5, w1, w2, w3, w4, w5] <;> and_intros <;> first | (apply hK1; clear hK1 K1) | (intros; first | omega | decide | (simp_all <;> omega)) | skip))))
      refine awp_loopC (rl false [1, 2, 11, 2, 14]) 2 (fun g s => CopI d kind item long many kids shares r q h g s) kids.length ⟨0, upd T1 q (some (.cont 6 (kids.map encX))), kids.map encX, by omega, by simp, upd_same _ _ _, fun i hi => by omega, fun i _ hi => getD_encX hi, fun k hk => ?_, ?_, rfl⟩ ?_
      · have hkq : k ≠ q := fun e => by subst e; rw [hT1 k hk] at hq; exact hk hq
        rw [upd_other _ _ hkq]; exact hT1 k hk
      · rcases hS with e | ⟨k, hk, e, hk2⟩
        · exact .inl e
        · have hkq : k ≠ q := fun e => by subst e; rw [hk2] at hq; cases hq
          exact .inr ⟨k, hk, e, by rw [upd_other _ _ hkq]; exact hk2⟩
      have hq' : h.T q = none := by
        cases e : h.T q with
        | none => rfl
        | some x => have := hT1 q (by rw [e]; simp); rw [hq, e] at this; cases this
      rintro n _ ⟨j, T2, css, hnj, hcl, hTq, hdone, hrest, hTT, hS2, rfl⟩
      (repeat (first | refine gO (by decide) ?_ | ((first | refine gM (mdL [(1, 1), (2, 1)]) ?_ | (with_reducible refine wM ?_ ?_) | ((with_reducible refine xR ?_); refine uE 6 (mdL [(1, 1), (2, 1)]) pSCopied_62_6E pSCopied_62_6P 30 rfl (by kernel_rfl) ?_)) <;> ((try with_reducible intro K1 hK1); simp only [go_sem, ↓reduceIte, reduceCtorEq, nA, nB, nC, nD, nE, nF, u1, u2, u3, u4, u5, v1, v2, v3, v4, v5, w1, w2, w3, w4, w5] <;> and_intros <;> first | (apply hK1; clear hK1 K1) | (intros; first | omega | decide | (simp_all <;> omega)) | skip))))
      refine awp_cond (t := _) rfl (fun h1 => ?_) (fun h1 => ?_)
      · simp only [decide_eq_true_eq] at h1
        have hj : j < kids.length := by omega
        have hg := hrest j (Nat.le_refl _) hj
        have hm : kids.getD j default ∈ kids := by
          rw [List.getD_eq_getElem?_getD, List.getElem?_eq_getElem hj]; exact List.getElem_mem _
        generalize kids.getD j default = t2 at hg hm
        have hlen := encX_len t2
        have htk : List.take 6 (encX t2) = encX t2 := List.take_of_length_le (Nat.le_of_eq hlen)
        (repeat (first | refine gO (by decide) ?_ | ((first | refine gM (mdL [(1, 1), (2, 1)]) ?_ | (with_reducible refine wM ?_ ?_) | ((with_reducible refine xR ?_); refine uE 6 (mdL [(1, 1), (2, 1)]) pSCopied_62_6E pSCopied_62_6P 30 rfl (by kernel_rfl) ?_)) <;> ((try with_reducible intro K1 hK1); simp only [go_sem, ↓reduceIte, reduceCtorEq, nA, nB, nC, nD, nE, nF, u1, u2, u3, u4, u5, v1, v2, v3, v4, v5, w1, w2, w3, w4, w5, hTq, hcl, Int.toNat_natCast, hg, hlen, htk] <;> and_intros <;> first | (apply hK1; clear hK1 K1) | (intros; first | omega | decide | (simp_all <;> omega)) | skip))))
        refine (g_copied d t2 ⟨h.H, T2⟩ (b8 t2 hm)).mono ?_
        rintro _ _ ⟨cs, T3, hcs, hT3, rfl, rfl⟩
        refine hK1 _ ?_; clear hK1 K1
        replace hcs : OLd true T3 (fun k => T2 k = none) d cs := hcs
        replace hT3 : ∀ k, T2 k ≠ none → T3 k = T2 k := hT3
        have hT3q : T3 q = some (.cont 6 css) := by rw [hT3 q (by rw [hTq]; simp)]; exact hTq
        have hcsl := hcs.len
        have hdr : List.drop 6 (encX t2) = [] := List.drop_of_length_le (Nat.le_of_eq hlen)
        (repeat (first | refine gO (by decide) ?_ | ((first | refine gM (mdL [(1, 1), (2, 1)]) ?_ | (with_reducible refine wM ?_ ?_) | ((with_reducible refine xR ?_); refine uE 6 (mdL [(1, 1), (2, 1)]) pSCopied_62_6E pSCopied_62_6P 30 rfl (by kernel_rfl) ?_)) <;> ((try with_reducible intro K1 hK1); simp only [go_sem, ↓reduceIte, reduceCtorEq, nA, nB, nC, nD, nE, nF, u1, u2, u3, u4, u5, v1, v2, v3, v4, v5, w1, w2, w3, w4, w5, hT3q, hcl, Int.toNat_natCast, hg, hlen, htk, hdr, hcsl] <;> and_intros <;> first | (apply hK1; clear hK1 K1) | (intros; first | omega | decide | (simp_all <;> omega)) | skip))))
        refine ⟨n - 1, by omega, j + 1, upd T3 q (some (.cont 6 (css.set j cs))), css.set j cs, by omega, by simpa using hcl, upd_same _ _ _, fun i hi => ?_, fun i hi hi2 => ?_, fun k hk => ?_, ?_, ?_⟩
        · have hkeep : ∀ k, T2 k ≠ none → k ≠ q → upd T3 q (some (.cont 6 (css.set j cs))) k = T2 k := fun k hk hkq => by rw [upd_other _ _ hkq]; exact hT3 k hk
          by_cases hij : i = j
          · subst hij
            rw [List.getD_eq_getElem?_getD, List.getElem?_set_self (by omega)]
            refine (hcs.keep (T' := upd T3 q (some (.cont 6 (css.set i cs)))) (fun k hk _ => upd_other _ _ fun e => by subst e; rw [hTq] at hk; cases hk) (fun _ k m hk => by
              by_cases hkq : k = q
              · subst hkq; rw [hT3q] at hk; cases hk
              · rw [upd_other _ _ hkq]; exact hk)).more fun k hk => ⟨?_, fun e => by subst e; rw [hTq] at hk; cases hk⟩
            cases e : h.T k with
            | none => rfl
            | some x => have := hTT k (by rw [e]; simp); rw [hk, e] at this; cases this
          · rw [List.getD_eq_getElem?_getD, List.getElem?_set_ne (by omega), ← List.getD_eq_getElem?_getD]
            refine (hdone i (by omega)).keep (fun k hk ⟨x, hk2⟩ => hkeep k (by rw [hk2]; simp) hk.2) (fun _ k m hk => ?_)
            by_cases hkq : k = q
            · subst hkq; rw [hTq] at hk; cases hk
            · rw [hkeep k (by rw [hk]; simp) hkq]; exact hk
        · rw [List.getD_eq_getElem?_getD, List.getElem?_set_ne (by omega), ← List.getD_eq_getElem?_getD]
          exact hrest i (by omega) hi2
        · have hkq : k ≠ q := fun e => by subst e; exact hk hq'
          rw [upd_other _ _ hkq, hT3 k (by rw [hTT k hk]; exact hk)]; exact hTT k hk
        · rcases hS2 with e | ⟨k, hk, e, hk2⟩
          · exact .inl e
          · have hkq : k ≠ q := fun e => by subst e; rw [hk2] at hTq; cases hTq
            exact .inr ⟨k, hk, e, by rw [upd_other _ _ hkq, hT3 k (by rw [hk2]; simp)]; exact hk2⟩
        · rfl
      · (repeat (first | refine gO (by decide) ?_ | ((first | refine gM (mdL [(1, 1), (2, 1)]) ?_ | (with_reducible refine wM ?_ ?_) | ((with_reducible refine xR ?_); refine uE 6 (mdL [(1, 1), (2, 1)]) pSCopied_62_6E pSCopied_62_6P 30 rfl (by kernel_rfl) ?_)) <;> ((try with_reducible intro K1 hK1); simp only [go_sem, ↓reduceIte, reduceCtorEq, nA, nB, nC, nD, nE, nF, u1, u2, u3, u4, u5, v1, v2, v3, v4, v5, w1, w2, w3, w4, w5] <;> and_intros <;> first | (apply hK1; clear hK1 K1) | (intros; first | omega | decide | (simp_all <;> omega)) | skip))))
        simp only [Tryz.results62, go_sem, ↓reduceIte, reduceCtorEq, nA, nB, nC, nD, nE, nF, u1, u2, u3, u4, u5, v1, v2, v3, v4, v5, w1, w2, w3, w4, w5]
        simp only [decide_eq_false_iff_not] at h1
        have hj : j = kids.length := by omega
        subst hj
        refine ⟨_, _, Weak.refl _, Hp.le.refl _, _, T2, ⟨kind, item, long, many, .arr 6 q kids.length, r, rfl, ⟨b1, b2, b3, b4⟩, .inr (.inl ⟨q, css, hq', hTq, by rw [hcl], by rw [hcl]; exact List.length_pos_iff.2 hq0, by omega, fun c hc => ?_⟩), ?_⟩, hTT, rfl, rfl⟩
        · obtain ⟨i, hi, rfl⟩ := List.getElem_of_mem hc
          have := hdone i (by omega)
          rw [List.getD_eq_getElem?_getD, List.getElem?_eq_getElem hi] at this
          exact this.more fun k hk => hk.1
        · rcases hS2 with e | ⟨k, hk, e, hk2⟩
          · exact .inl e
          · exact .inr ⟨shares, k, e, by omega, b7, fun _ => ⟨hk, hk2, b6⟩⟩
abbrev pSInner_64_2E : List Nat := [0, 1, 2, 3, 4, 5, 6, 7, 8, 9]
abbrev pSInner_64_2P : List (Nat × List Nat × List Nat) := [(10, [3], [11]), (12, [], [])]
attribute [go_sem] pSInner_64_2E pSInner_64_2P
def PtIn (o : Nat) (T : Nat → Option TO) (S : Nat → Prop) (cs0 : List AV) (p : AV) (cs : List AV) : Prop :=
  p = .ptr o 0 ∧ cs = cs0 ∨ ∃ q css j, S q ∧ T q = some (.cont 6 css) ∧ j < css.length ∧ p = .eptr q css.length j 0 ∧ css.getD j [] = cs
def InnI (i o : Nat) (l : List Int) (a : Int) (h : Hp) (S : Nat → Prop) (d : Nat) (cs0 : List AV) (g : Nat) (s : St) : Prop :=
  ∃ p cs a', PtIn o h.T S cs0 p cs ∧ OLd true h.T S g cs ∧ (a ≤ a' ∧ a' + 2 * g ≤ a + 2 * d) ∧ s = ⟨((.ptr i 0) :: (p) :: (jnk 27 [])), [], h.st i l a'⟩
theorem g_inner (i o : Nat) (l : List Int) (a : Int) (h : Hp) (hl : SOk l) (S : Nat → Prop) (d : Nat) (cs0 : List AV) (ha : 0 ≤ a ∧ a + 2 * d ≤ 900000000) (hio : o ≠ i) (hH0 : h.H o = some (.cells cs0)) (hO : OLd true h.T S d cs0) :
    ACalls Tryz.prog 64 [.ptr i 0, .ptr o 0] (h.st i l a) (fun r h' => ∃ cs e a', (a ≤ a' ∧ a' ≤ a + 2 * d) ∧ PtIn o h.T S cs0 r cs ∧ OLd true h.T S e cs ∧ h' = h.st i l a') := by
  refine gE Tryz.func64 rfl (by kernel_rfl) 27 rfl fun c => ?_
  (repeat (first | refine gO (by decide) ?_ | ((first | refine gR ?_ | (with_reducible refine wM ?_ ?_) | ((with_reducible refine xR ?_); refine uE 2 (mdL []) pSInner_64_2E pSInner_64_2P 29 rfl (by kernel_rfl) ?_)) <;> ((try with_reducible intro K1 hK1); simp only [go_sem, ↓reduceIte, reduceCtorEq, nA, nB, nC, nD, nE, nF] <;> and_intros <;> first | (apply hK1; clear hK1 K1) | (intros; first | omega | decide | (simp_all <;> omega)) | skip))))
  refine awp_loopC (rl false [0, 2, 27]) 0 (fun g s => InnI i o l a h S d cs0 g s) d ⟨.ptr o 0, cs0, a, .inl ⟨rfl, rfl⟩, hO, by omega, rfl⟩ ?_
  rintro g _ ⟨p, cs, a', hp, hcs, ha', rfl⟩
  cases g with
  | zero => exact hcs.elim
  | succ g =>
  obtain ⟨kind, item, long, many, K, Sh, rfl, hnb, hK, hS⟩ := id hcs
  have hH1 : ∀ b, cs0 = [.v (.int .i64 kind), .v (.string item), .v (.int .i64 long), .v (.int .i64 many), K, Sh] → (h.st i l b).H o = some (.cells [.v (.int .i64 kind), .v (.string item), .v (.int .i64 long), .v (.int .i64 many), K, Sh]) := fun b e => by
    rw [← e]; simp only [Hp.st, upd_other _ _ hio]; exact hH0
  have hK' : K = .v (.slice none 0 0) ∨ ∃ q css, S q ∧ h.T q = some (.cont 6 css) ∧ K = .arr 6 q css.length ∧ 0 < css.length ∧ css.length ≤ 3 ∧ ∀ c ∈ css, OLd true h.T S g c := by
    rcases hK with e | e | ⟨e, _⟩
    · exact .inl e
    · exact .inr e
    · cases e
  rcases hK' with rfl | ⟨q, css, hq, hTq, rfl, hpos, hcl, hcc⟩
  · rcases id hp with ⟨rfl, e⟩ | ⟨q0, css0, j0, hq0, hT0, hj0, rfl, hg0⟩
    · have hH := fun b => hH1 b e.symm
      (repeat (first | refine gO (by decide) ?_ | ((first | refine gR ?_ | (with_reducible refine wM ?_ ?_) | ((with_reducible refine xR ?_); refine uE 2 (mdL []) pSInner_64_2E pSInner_64_2P 29 rfl (by kernel_rfl) ?_)) <;> ((try with_reducible intro K1 hK1); simp only [go_sem, ↓reduceIte, reduceCtorEq, nA, nB, nC, nD, nE, nF, hH, st_T, Int.toNat_natCast] <;> and_intros <;> first | (apply hK1; clear hK1 K1) | (intros; first | omega | decide | (simp_all <;> omega)) | skip))))
      intro h1
      refine hK1 _ ?_; clear hK1 K1
      (repeat (first | refine gO (by decide) ?_ | ((first | refine gR ?_ | (with_reducible refine wM ?_ ?_) | ((with_reducible refine xR ?_); refine uE 2 (mdL []) pSInner_64_2E pSInner_64_2P 29 rfl (by kernel_rfl) ?_)) <;> ((try with_reducible intro K1 hK1); simp only [go_sem, ↓reduceIte, reduceCtorEq, nA, nB, nC, nD, nE, nF, hH, h1, st_T, Int.toNat_natCast] <;> and_intros <;> first | (apply hK1; clear hK1 K1) | (intros; first | omega | decide | (simp_all <;> omega)) | skip))))
      refine ⟨.junk, rfl, hK1 _ ?_⟩; clear hK1 K1
      (repeat (first | refine gO (by decide) ?_ | ((first | refine gR ?_ | (with_reducible refine wM ?_ ?_) | ((with_reducible refine xR ?_); refine uE 2 (mdL []) pSInner_64_2E pSInner_64_2P 29 rfl (by kernel_rfl) ?_)) <;> ((try with_reducible intro K1 hK1); simp only [go_sem, ↓reduceIte, reduceCtorEq, nA, nB, nC, nD, nE, nF, hH, h1, st_T, Int.toNat_natCast] <;> and_intros <;> first | (apply hK1; clear hK1 K1) | (intros; first | omega | decide | (simp_all <;> omega)) | skip))))
      refine awp_cond (t := _) rfl (fun h2 => by cases h2) (fun h2 => ?_)
      (repeat (first | refine gO (by decide) ?_ | ((first | refine gR ?_ | (with_reducible refine wM ?_ ?_) | ((with_reducible refine xR ?_); refine uE 2 (mdL []) pSInner_64_2E pSInner_64_2P 29 rfl (by kernel_rfl) ?_)) <;> ((try with_reducible intro K1 hK1); simp only [go_sem, ↓reduceIte, reduceCtorEq, nA, nB, nC, nD, nE, nF, hH, st_T, Int.toNat_natCast] <;> and_intros <;> first | (apply hK1; clear hK1 K1) | (intros; first | omega | decide | (simp_all <;> omega)) | skip))))
      simp only [Tryz.results64, go_sem, ↓reduceIte, reduceCtorEq, nA, nB, nC, nD, nE, nF]
      exact ⟨_, _, Weak.refl _, Hp.le.refl _, _, _, a', by omega, hp, hcs, rfl⟩
    · have hj0' : (j0 : Nat) < css0.length := hj0
      (repeat (first | refine gO (by decide) ?_ | ((first | refine gR ?_ | (with_reducible refine wM ?_ ?_) | ((with_reducible refine xR ?_); refine uE 2 (mdL []) pSInner_64_2E pSInner_64_2P 29 rfl (by kernel_rfl) ?_)) <;> ((try with_reducible intro K1 hK1); simp only [go_sem, ↓reduceIte, reduceCtorEq, nA, nB, nC, nD, nE, nF, hT0, hg0, st_T, Int.toNat_natCast] <;> and_intros <;> first | (apply hK1; clear hK1 K1) | (intros; first | omega | decide | (simp_all <;> omega)) | skip))))
      intro h1
      refine hK1 _ ?_; clear hK1 K1
      (repeat (first | refine gO (by decide) ?_ | ((first | refine gR ?_ | (with_reducible refine wM ?_ ?_) | ((with_reducible refine xR ?_); refine uE 2 (mdL []) pSInner_64_2E pSInner_64_2P 29 rfl (by kernel_rfl) ?_)) <;> ((try with_reducible intro K1 hK1); simp only [go_sem, ↓reduceIte, reduceCtorEq, nA, nB, nC, nD, nE, nF, hT0, hg0, h1, st_T, Int.toNat_natCast] <;> and_intros <;> first | (apply hK1; clear hK1 K1) | (intros; first | omega | decide | (simp_all <;> omega)) | skip))))
      refine ⟨.junk, rfl, hK1 _ ?_⟩; clear hK1 K1
      (repeat (first | refine gO (by decide) ?_ | ((first | refine gR ?_ | (with_reducible refine wM ?_ ?_) | ((with_reducible refine xR ?_); refine uE 2 (mdL []) pSInner_64_2E pSInner_64_2P 29 rfl (by kernel_rfl) ?_)) <;> ((try with_reducible intro K1 hK1); simp only [go_sem, ↓reduceIte, reduceCtorEq, nA, nB, nC, nD, nE, nF, hT0, hg0, h1, st_T, Int.toNat_natCast] <;> and_intros <;> first | (apply hK1; clear hK1 K1) | (intros; first | omega | decide | (simp_all <;> omega)) | skip))))
      refine awp_cond (t := _) rfl (fun h2 => by cases h2) (fun h2 => ?_)
      (repeat (first | refine gO (by decide) ?_ | ((first | refine gR ?_ | (with_reducible refine wM ?_ ?_) | ((with_reducible refine xR ?_); refine uE 2 (mdL []) pSInner_64_2E pSInner_64_2P 29 rfl (by kernel_rfl) ?_)) <;> ((try with_reducible intro K1 hK1); simp only [go_sem, ↓reduceIte, reduceCtorEq, nA, nB, nC, nD, nE, nF, hT0, hg0, st_T, Int.toNat_natCast] <;> and_intros <;> first | (apply hK1; clear hK1 K1) | (intros; first | omega | decide | (simp_all <;> omega)) | skip))))
      simp only [Tryz.results64, go_sem, ↓reduceIte, reduceCtorEq, nA, nB, nC, nD, nE, nF]
      exact ⟨_, _, Weak.refl _, Hp.le.refl _, _, _, a', by omega, hp, hcs, rfl⟩
  · rcases id hp with ⟨rfl, e⟩ | ⟨q0, css0, j0, hq0, hT0, hj0, rfl, hg0⟩
    · have hH := fun b => hH1 b e.symm
      (repeat (first | refine gO (by decide) ?_ | ((first | refine gR ?_ | (with_reducible refine wM ?_ ?_) | ((with_reducible refine xR ?_); refine uE 2 (mdL []) pSInner_64_2E pSInner_64_2P 29 rfl (by kernel_rfl) ?_)) <;> ((try with_reducible intro K1 hK1); simp only [go_sem, ↓reduceIte, reduceCtorEq, nA, nB, nC, nD, nE, nF, hH, st_T, Int.toNat_natCast] <;> and_intros <;> first | (apply hK1; clear hK1 K1) | (intros; first | omega | decide | (simp_all <;> omega)) | skip))))
      intro h1
      refine ⟨h1, ?_⟩
      refine (g_flip i l a' 3 h hl (by omega) (by omega)).mono ?_
      rintro _ _ ⟨b, rfl, rfl⟩
      refine ⟨rfl, hK1 _ ?_⟩; clear hK1 K1
      (repeat (first | refine gO (by decide) ?_ | ((first | refine gR ?_ | (with_reducible refine wM ?_ ?_) | ((with_reducible refine xR ?_); refine uE 2 (mdL []) pSInner_64_2E pSInner_64_2P 29 rfl (by kernel_rfl) ?_)) <;> ((try with_reducible intro K1 hK1); simp only [go_sem, ↓reduceIte, reduceCtorEq, nA, nB, nC, nD, nE, nF, hH, h1, st_T, Int.toNat_natCast] <;> and_intros <;> first | (apply hK1; clear hK1 K1) | (intros; first | omega | decide | (simp_all <;> omega)) | skip))))
      refine awp_cond (t := _) rfl (fun h2 => ?_) (fun h2 => ?_)
      · (repeat (first | refine gO (by decide) ?_ | ((first | refine gR ?_ | (with_reducible refine wM ?_ ?_) | ((with_reducible refine xR ?_); refine uE 2 (mdL []) pSInner_64_2E pSInner_64_2P 29 rfl (by kernel_rfl) ?_)) <;> ((try with_reducible intro K1 hK1); simp only [go_sem, ↓reduceIte, reduceCtorEq, nA, nB, nC, nD, nE, nF, hH, st_T, Int.toNat_natCast] <;> and_intros <;> first | (apply hK1; clear hK1 K1) | (intros; first | omega | decide | (simp_all <;> omega)) | skip))))
        refine (g_next i l (a' + 1) css.length h hl (by omega) (by omega)).mono ?_; rintro _ _ ⟨x, hx, rfl, rfl⟩; apply hK1; clear hK1 K1
        (repeat (first | refine gO (by decide) ?_ | ((first | refine gR ?_ | (with_reducible refine wM ?_ ?_) | ((with_reducible refine xR ?_); refine uE 2 (mdL []) pSInner_64_2E pSInner_64_2P 29 rfl (by kernel_rfl) ?_)) <;> ((try with_reducible intro K1 hK1); simp only [go_sem, ↓reduceIte, reduceCtorEq, nA, nB, nC, nD, nE, nF, hH, st_T, Int.toNat_natCast] <;> and_intros <;> first | (apply hK1; clear hK1 K1) | (intros; first | omega | decide | (simp_all <;> omega)) | skip))))
        have hxl : x.toNat < css.length := by omega
        refine ⟨g, by omega, .eptr q css.length x.toNat 0, css.getD x.toNat [], a' + 1 + 1, .inr ⟨q, css, x.toNat, hq, hTq, hxl, rfl, rfl⟩, hcc _ (by rw [List.getD_eq_getElem?_getD, List.getElem?_eq_getElem hxl]; exact List.getElem_mem _), by omega, rfl⟩
      · (repeat (first | refine gO (by decide) ?_ | ((first | refine gR ?_ | (with_reducible refine wM ?_ ?_) | ((with_reducible refine xR ?_); refine uE 2 (mdL []) pSInner_64_2E pSInner_64_2P 29 rfl (by kernel_rfl) ?_)) <;> ((try with_reducible intro K1 hK1); simp only [go_sem, ↓reduceIte, reduceCtorEq, nA, nB, nC, nD, nE, nF, hH, st_T, Int.toNat_natCast] <;> and_intros <;> first | (apply hK1; clear hK1 K1) | (intros; first | omega | decide | (simp_all <;> omega)) | skip))))
        simp only [Tryz.results64, go_sem, ↓reduceIte, reduceCtorEq, nA, nB, nC, nD, nE, nF]
        exact ⟨_, _, Weak.refl _, Hp.le.refl _, _, _, a' + 1, by omega, hp, hcs, rfl⟩
    · --
      (repeat (first | refine gO (by decide) ?_ | ((first | refine gR ?_ | (with_reducible refine wM ?_ ?_) | ((with_reducible refine xR ?_); refine uE 2 (mdL []) pSInner_64_2E pSInner_64_2P 29 rfl (by kernel_rfl) ?_)) <;> ((try with_reducible intro K1 hK1); simp only [go_sem, ↓reduceIte, reduceCtorEq, nA, nB, nC, nD, nE, nF, hT0, hg0, st_T, Int.toNat_natCast] <;> and_intros <;> first | (apply hK1; clear hK1 K1) | (intros; first | omega | decide | (simp_all <;> omega)) | skip))))
      intro h1
      refine ⟨h1, ?_⟩
      refine (g_flip i l a' 3 h hl (by omega) (by omega)).mono ?_
      rintro _ _ ⟨b, rfl, rfl⟩
      refine ⟨rfl, hK1 _ ?_⟩; clear hK1 K1
      (repeat (first | refine gO (by decide) ?_ | ((first | refine gR ?_ | (with_reducible refine wM ?_ ?_) | ((with_reducible refine xR ?_); refine uE 2 (mdL []) pSInner_64_2E pSInner_64_2P 29 rfl (by kernel_rfl) ?_)) <;> ((try with_reducible intro K1 hK1); simp only [go_sem, ↓reduceIte, reduceCtorEq, nA, nB, nC, nD, nE, nF, hT0, hg0, h1, st_T, Int.toNat_natCast] <;> and_intros <;> first | (apply hK1; clear hK1 K1) | (intros; first | omega | decide | (simp_all <;> omega)) | skip))))
      refine awp_cond (t := _) rfl (fun h2 => ?_) (fun h2 => ?_)
      · (repeat (first | refine gO (by decide) ?_ | ((first | refine gR ?_ | (with_reducible refine wM ?_ ?_) | ((with_reducible refine xR ?_); refine uE 2 (mdL []) pSInner_64_2E pSInner_64_2P 29 rfl (by kernel_rfl) ?_)) <;> ((try with_reducible intro K1 hK1); simp only [go_sem, ↓reduceIte, reduceCtorEq, nA, nB, nC, nD, nE, nF, hT0, hg0, st_T, Int.toNat_natCast] <;> and_intros <;> first | (apply hK1; clear hK1 K1) | (intros; first | omega | decide | (simp_all <;> omega)) | skip))))
        refine (g_next i l (a' + 1) css.length h hl (by omega) (by omega)).mono ?_; rintro _ _ ⟨x, hx, rfl, rfl⟩; apply hK1; clear hK1 K1
        (repeat (first | refine gO (by decide) ?_ | ((first | refine gR ?_ | (with_reducible refine wM ?_ ?_) | ((with_reducible refine xR ?_); refine uE 2 (mdL []) pSInner_64_2E pSInner_64_2P 29 rfl (by kernel_rfl) ?_)) <;> ((try with_reducible intro K1 hK1); simp only [go_sem, ↓reduceIte, reduceCtorEq, nA, nB, nC, nD, nE, nF, hT0, hg0, st_T, Int.toNat_natCast] <;> and_intros <;> first | (apply hK1; clear hK1 K1) | (intros; first | omega | decide | (simp_all <;> omega)) | skip))))
        have hxl : x.toNat < css.length := by omega
        refine ⟨g, by omega, .eptr q css.length x.toNat 0, css.getD x.toNat [], a' + 1 + 1, .inr ⟨q, css, x.toNat, hq, hTq, hxl, rfl, rfl⟩, hcc _ (by rw [List.getD_eq_getElem?_getD, List.getElem?_eq_getElem hxl]; exact List.getElem_mem _), by omega, rfl⟩
      · (repeat (first | refine gO (by decide) ?_ | ((first | refine gR ?_ | (with_reducible refine wM ?_ ?_) | ((with_reducible refine xR ?_); refine uE 2 (mdL []) pSInner_64_2E pSInner_64_2P 29 rfl (by kernel_rfl) ?_)) <;> ((try with_reducible intro K1 hK1); simp only [go_sem, ↓reduceIte, reduceCtorEq, nA, nB, nC, nD, nE, nF, hT0, hg0, st_T, Int.toNat_natCast] <;> and_intros <;> first | (apply hK1; clear hK1 K1) | (intros; first | omega | decide | (simp_all <;> omega)) | skip))))
        simp only [Tryz.results64, go_sem, ↓reduceIte, reduceCtorEq, nA, nB, nC, nD, nE, nF]
        exact ⟨_, _, Weak.refl _, Hp.le.refl _, _, _, a' + 1, by omega, hp, hcs, rfl⟩
abbrev pSRight_118_1E : List Nat := [0, 1, 3, 4]
abbrev pSRight_118_1P : List (Nat × List Nat × List Nat) := [(2, [3], []), (5, [], [6]), (7, [], [])]
abbrev pSRight_63_10E : List Nat := [0, 1, 2, 3]
abbrev pSRight_63_10P : List (Nat × List Nat × List Nat) := [(4, [0], [5]), (6, [], []), (8, [], [])]
abbrev pSRight_63_16E : List Nat := [0, 1, 2, 3]
abbrev pSRight_63_16P : List (Nat × List Nat × List Nat) := [(4, [1], [5]), (6, [], [7]), (8, [], [])]
attribute [go_sem] pSRight_118_1E pSRight_118_1P pSRight_63_10E pSRight_63_10P pSRight_63_16E pSRight_63_16P
theorem g_item (i : Nat) (l : List Int) (a : Int) (h : Hp) (hl : SOk l) (ha : 0 ≤ a ∧ a ≤ 900000000) :
    ACalls Tryz.prog 118 [.ref [.ptr i 0] 0] (h.st i l a) (fun r h' => ∃ t, LB 1 t ∧ r = .agg (encX t) ∧ h' = h.st i l (a + 2)) := by
  refine gE Tryz.func118 rfl (by kernel_rfl) 8 rfl fun c => ?_
  (repeat (first | refine gO (by decide) ?_ | ((first | refine gM (mdL [(1, 1)]) ?_ | (with_reducible refine wM ?_ ?_) | ((with_reducible refine xS ?_); refine uD 1 (mdL [(1, 1)]) pSRight_118_1E pSRight_118_1P 9 rfl (by kernel_rfl) ?_)) <;> ((try with_reducible intro K1 hK1); simp only [go_sem, ↓reduceIte, reduceCtorEq, nA, nB, nC, nD, nE, nF] <;> and_intros <;> first | (apply hK1; clear hK1 K1) | (intros; first | omega | decide | (simp_all <;> omega)) | skip))))
  refine (g_some i l a [⟨#[105, 97]⟩, ⟨#[105, 97]⟩, ⟨#[105, 98]⟩, ⟨#[105, 99]⟩, ⟨#[110, 97]⟩] none h hl (by omega) (by simp)).mono ?_; rintro _ _ ⟨x, hx, rfl, rfl⟩; apply hK1; clear hK1 K1
  (repeat (first | refine gO (by decide) ?_ | ((first | refine gM (mdL [(1, 1)]) ?_ | (with_reducible refine wM ?_ ?_) | ((with_reducible refine xS ?_); refine uD 1 (mdL [(1, 1)]) pSRight_118_1E pSRight_118_1P 9 rfl (by kernel_rfl) ?_)) <;> ((try with_reducible intro K1 hK1); simp only [go_sem, ↓reduceIte, reduceCtorEq, nA, nB, nC, nD, nE, nF] <;> and_intros <;> first | (apply hK1; clear hK1 K1) | (intros; first | omega | decide | (simp_all <;> omega)) | skip))))
  refine (g_pick i l (a + 1) [1000, 2000, 5000] none h hl (by omega) (by simp)).mono ?_; rintro _ _ ⟨y, hy, rfl, rfl⟩; apply hK1; clear hK1 K1
  (repeat (first | refine gO (by decide) ?_ | ((first | refine gM (mdL [(1, 1)]) ?_ | (with_reducible refine wM ?_ ?_) | ((with_reducible refine xS ?_); refine uD 1 (mdL [(1, 1)]) pSRight_118_1E pSRight_118_1P 9 rfl (by kernel_rfl) ?_)) <;> ((try with_reducible intro K1 hK1); simp only [go_sem, ↓reduceIte, reduceCtorEq, nA, nB, nC, nD, nE, nF] <;> and_intros <;> first | (apply hK1; clear hK1 K1) | (intros; first | omega | decide | (simp_all <;> omega)) | skip))))
  simp only [Tryz.results118, go_sem, ↓reduceIte, reduceCtorEq, nA, nB, nC, nD, nE, nF]
  refine ⟨_, _, Weak.refl _, Hp.le.refl _, .mk 1 x y 0 [] [], ?_, by rw [encX_eq]; rfl, by rw [show a + 1 + 1 = a + 2 by omega]⟩
  simp at hx hy
  refine ⟨by unfold NB; omega, ?_, by unfold NB; omega, by unfold NB; omega, by simp, by simp, by simp, by simp⟩
  rcases hx with rfl | rfl | rfl | rfl <;> decide
def costR : Nat → Int
  | 0 => 20
  | n + 1 => 20 + 3 * (costR n + 10)
def RightI (d : Nat) (deep : Int) (i : Nat) (l : List Int) (h : Hp) (kd mn many a' : Int) (k1 : Nat) (g : Nat) (s : St) : Prop :=
  ∃ (kids : List LT) (shares : List Int) (S : AV) (T2 : Nat → Option TO) (a2 : Int), (g : Int) + kids.length = many ∧ T2 k1 = some (.tail kids.length) ∧
    (kd = 4 ∧ (∃ k2, k2 ≠ k1 ∧ h.T k2 = none ∧ S = .row 1 (shares.map encI) (some k2) ∧ T2 k2 = some (.tail shares.length) ∧ shares.length = kids.length) ∨ kd ≠ 4 ∧ shares = [] ∧ S = .v (.slice none 0 0)) ∧
    (∀ k, h.T k ≠ none → T2 k = h.T k) ∧ (∀ t ∈ kids, LB (d + 1) t) ∧ (∀ x ∈ shares, NB x) ∧ (a' ≤ a2 ∧ a2 ≤ a' + kids.length * (costR d + 3)) ∧
    s = ⟨(AV.junk :: ((.v (.int .i64 deep)) :: (.ref [.ptr i 0] 0) :: AV.junk :: ((.loc 0 0) :: AV.junk :: ((.loc 1 0) :: (jnk 25 ((.v (.int .i64 many)) :: (.v (.int .i64 kids.length)) :: (jnk 42 []))))))),
      [[.v (.int .i64 0), .v (.string { data := #[] }), .v (.int .i64 0), .v (.int .i64 0), .v (.slice none 0 0), .v (.slice none 0 0)], [.v (.int .i64 kd), .v (.string { data := #[] }), .v (.int .i64 0), .v (.int .i64 mn), .row 6 (kids.map encX) (some k1), S]], Hp.st ⟨h.H, T2⟩ i l a2⟩
theorem g_right : ∀ (d : Nat) (deep : Int) (_ : deep ≤ d ∧ -10 ≤ deep ∧ d ≤ 100) (i : Nat) (l : List Int) (a : Int) (h : Hp) (_ : SOk l) (_ : 0 ≤ a ∧ a + costR d ≤ 900000000),
    ACalls Tryz.prog 63 [.ptr i 0, .v (.int .i64 deep)] (h.st i l a) (fun r h' => ∃ t a', LB (d + 1) t ∧ (a ≤ a' ∧ a' ≤ a + costR d) ∧ r = .agg (encX t) ∧ h' = h.st i l a')
  | 0, deep, hd, i, l, a, h, hl, ha => by
    have hc : costR 0 = 20 := rfl
    refine gE Tryz.func63 rfl (by kernel_rfl) 74 rfl fun c => ?_
    (repeat (first | refine gO (by decide) ?_ | ((first | refine gM (mdL [(4, 1), (6, 1), (8, 1)]) ?_ | (with_reducible refine wM ?_ ?_) | ((with_reducible refine xS ?_); refine uF 10 (mdL [(4, 1), (6, 1), (8, 1)]) 7 pSRight_63_10E pSRight_63_10P 76 rfl (by kernel_rfl) ?_) | ((with_reducible refine xR ?_); refine uE 16 (mdL [(4, 1), (6, 1), (8, 1)]) pSRight_63_16E pSRight_63_16P 76 rfl (by kernel_rfl) ?_)) <;> ((try with_reducible intro K1 hK1); simp only [go_sem, ↓reduceIte, reduceCtorEq, nA, nB, nC, nD, nE, nF] <;> and_intros <;> first | (apply hK1; clear hK1 K1) | (intros; first | omega | decide | (simp_all <;> omega)) | skip))))
    intro h1
    refine hK1 _ ?_; clear hK1 K1
    (repeat (first | refine gO (by decide) ?_ | ((first | refine gM (mdL [(4, 1), (6, 1), (8, 1)]) ?_ | (with_reducible refine wM ?_ ?_) | ((with_reducible refine xS ?_); refine uF 10 (mdL [(4, 1), (6, 1), (8, 1)]) 7 pSRight_63_10E pSRight_63_10P 76 rfl (by kernel_rfl) ?_) | ((with_reducible refine xR ?_); refine uE 16 (mdL [(4, 1), (6, 1), (8, 1)]) pSRight_63_16E pSRight_63_16P 76 rfl (by kernel_rfl) ?_)) <;> ((try with_reducible intro K1 hK1); simp only [go_sem, ↓reduceIte, reduceCtorEq, nA, nB, nC, nD, nE, nF, h1] <;> and_intros <;> first | (apply hK1; clear hK1 K1) | (intros; first | omega | decide | (simp_all <;> omega)) | skip))))
    refine awp_cond (t := _) rfl (fun _ => ?_) (fun h2 => by cases h2)
    (repeat (first | refine gO (by decide) ?_ | ((first | refine gM (mdL [(4, 1), (6, 1), (8, 1)]) ?_ | (with_reducible refine wM ?_ ?_) | ((with_reducible refine xS ?_); refine uF 10 (mdL [(4, 1), (6, 1), (8, 1)]) 7 pSRight_63_10E pSRight_63_10P 76 rfl (by kernel_rfl) ?_) | ((with_reducible refine xR ?_); refine uE 16 (mdL [(4, 1), (6, 1), (8, 1)]) pSRight_63_16E pSRight_63_16P 76 rfl (by kernel_rfl) ?_)) <;> ((try with_reducible intro K1 hK1); simp only [go_sem, ↓reduceIte, reduceCtorEq, nA, nB, nC, nD, nE, nF] <;> and_intros <;> first | (apply hK1; clear hK1 K1) | (intros; first | omega | decide | (simp_all <;> omega)) | skip))))
    refine (g_item i l a h hl (by omega)).mono ?_; rintro _ _ ⟨t, ht, rfl, rfl⟩; apply hK1; clear hK1 K1
    have hlen := encX_len t
    have htk : List.take 6 (encX t) = encX t := List.take_of_length_le (Nat.le_of_eq hlen)
    (repeat (first | refine gO (by decide) ?_ | ((first | refine gM (mdL [(4, 1), (6, 1), (8, 1)]) ?_ | (with_reducible refine wM ?_ ?_) | ((with_reducible refine xS ?_); refine uF 10 (mdL [(4, 1), (6, 1), (8, 1)]) 7 pSRight_63_10E pSRight_63_10P 76 rfl (by kernel_rfl) ?_) | ((with_reducible refine xR ?_); refine uE 16 (mdL [(4, 1), (6, 1), (8, 1)]) pSRight_63_16E pSRight_63_16P 76 rfl (by kernel_rfl) ?_)) <;> ((try with_reducible intro K1 hK1); simp only [go_sem, ↓reduceIte, reduceCtorEq, nA, nB, nC, nD, nE, nF, hlen] <;> and_intros <;> first | (apply hK1; clear hK1 K1) | (intros; first | omega | decide | (simp_all <;> omega)) | skip))))
    simp only [Tryz.results63, go_sem, ↓reduceIte, reduceCtorEq, nA, nB, nC, nD, nE, nF, hlen, htk]
    exact ⟨_, _, Weak.refl _, Hp.le.refl _, t, a + 2, ht, by omega, rfl, rfl⟩
  | d + 1, deep, hd, i, l, a, h, hl, ha => by
    have hc : costR (d + 1) = 20 + 3 * (costR d + 10) := rfl
    have hc0 : 20 ≤ costR d := by
      clear hc ha hd
      induction d with
      | zero => exact Int.le_refl _
      | succ n ih => show 20 ≤ 20 + 3 * (costR n + 10); omega
    refine gE Tryz.func63 rfl (by kernel_rfl) 74 rfl fun c => ?_
    (repeat (first | refine gO (by decide) ?_ | ((first | refine gM (mdL [(4, 1), (6, 1), (8, 1)]) ?_ | (with_reducible refine wM ?_ ?_) | ((with_reducible refine xS ?_); refine uF 10 (mdL [(4, 1), (6, 1), (8, 1)]) 7 pSRight_63_10E pSRight_63_10P 76 rfl (by kernel_rfl) ?_) | ((with_reducible refine xR ?_); refine uE 16 (mdL [(4, 1), (6, 1), (8, 1)]) pSRight_63_16E pSRight_63_16P 76 rfl (by kernel_rfl) ?_)) <;> ((try with_reducible intro K1 hK1); simp only [go_sem, ↓reduceIte, reduceCtorEq, nA, nB, nC, nD, nE, nF] <;> and_intros <;> first | (apply hK1; clear hK1 K1) | (intros; first | omega | decide | (simp_all <;> omega)) | skip))))
    rotate_left
    · intro h1
      refine hK1 _ ?_; clear hK1 K1
      (repeat (first | refine gO (by decide) ?_ | ((first | refine gM (mdL [(4, 1), (6, 1), (8, 1)]) ?_ | (with_reducible refine wM ?_ ?_) | ((with_reducible refine xS ?_); refine uF 10 (mdL [(4, 1), (6, 1), (8, 1)]) 7 pSRight_63_10E pSRight_63_10P 76 rfl (by kernel_rfl) ?_) | ((with_reducible refine xR ?_); refine uE 16 (mdL [(4, 1), (6, 1), (8, 1)]) pSRight_63_16E pSRight_63_16P 76 rfl (by kernel_rfl) ?_)) <;> ((try with_reducible intro K1 hK1); simp only [go_sem, ↓reduceIte, reduceCtorEq, nA, nB, nC, nD, nE, nF, h1] <;> and_intros <;> first | (apply hK1; clear hK1 K1) | (intros; first | omega | decide | (simp_all <;> omega)) | skip))))
      refine awp_cond (t := _) rfl (fun _ => ?_) (fun h2 => by cases h2)
      (repeat (first | refine gO (by decide) ?_ | ((first | refine gM (mdL [(4, 1), (6, 1), (8, 1)]) ?_ | (with_reducible refine wM ?_ ?_) | ((with_reducible refine xS ?_); refine uF 10 (mdL [(4, 1), (6, 1), (8, 1)]) 7 pSRight_63_10E pSRight_63_10P 76 rfl (by kernel_rfl) ?_) | ((with_reducible refine xR ?_); refine uE 16 (mdL [(4, 1), (6, 1), (8, 1)]) pSRight_63_16E pSRight_63_16P 76 rfl (by kernel_rfl) ?_)) <;> ((try with_reducible intro K1 hK1); simp only [go_sem, ↓reduceIte, reduceCtorEq, nA, nB, nC, nD, nE, nF] <;> and_intros <;> first | (apply hK1; clear hK1 K1) | (intros; first | omega | decide | (simp_all <;> omega)) | skip))))
      refine (g_item i l a h hl (by omega)).mono ?_; rintro _ _ ⟨t, ht, rfl, rfl⟩; apply hK1; clear hK1 K1
      have hlen := encX_len t
      have htk : List.take 6 (encX t) = encX t := List.take_of_length_le (Nat.le_of_eq hlen)
      (repeat (first | refine gO (by decide) ?_ | ((first | refine gM (mdL [(4, 1), (6, 1), (8, 1)]) ?_ | (with_reducible refine wM ?_ ?_) | ((with_reducible refine xS ?_); refine uF 10 (mdL [(4, 1), (6, 1), (8, 1)]) 7 pSRight_63_10E pSRight_63_10P 76 rfl (by kernel_rfl) ?_) | ((with_reducible refine xR ?_); refine uE 16 (mdL [(4, 1), (6, 1), (8, 1)]) pSRight_63_16E pSRight_63_16P 76 rfl (by kernel_rfl) ?_)) <;> ((try with_reducible intro K1 hK1); simp only [go_sem, ↓reduceIte, reduceCtorEq, nA, nB, nC, nD, nE, nF, hlen] <;> and_intros <;> first | (apply hK1; clear hK1 K1) | (intros; first | omega | decide | (simp_all <;> omega)) | skip))))
      simp only [Tryz.results63, go_sem, ↓reduceIte, reduceCtorEq, nA, nB, nC, nD, nE, nF, hlen, htk]
      exact ⟨_, _, Weak.refl _, Hp.le.refl _, t, a + 2, ht.mono (by omega), by omega, rfl, rfl⟩
    · intro h1
      refine ⟨h1, ?_⟩
      refine (g_flip i l a 5 h hl (by omega) (by omega)).mono ?_
      rintro _ _ ⟨b, rfl, rfl⟩
      refine ⟨rfl, hK1 _ ?_⟩; clear hK1 K1
      (repeat (first | refine gO (by decide) ?_ | ((first | refine gM (mdL [(4, 1), (6, 1), (8, 1)]) ?_ | (with_reducible refine wM ?_ ?_) | ((with_reducible refine xS ?_); refine uF 10 (mdL [(4, 1), (6, 1), (8, 1)]) 7 pSRight_63_10E pSRight_63_10P 76 rfl (by kernel_rfl) ?_) | ((with_reducible refine xR ?_); refine uE 16 (mdL [(4, 1), (6, 1), (8, 1)]) pSRight_63_16E pSRight_63_16P 76 rfl (by kernel_rfl) ?_)) <;> ((try with_reducible intro K1 hK1); simp only [go_sem, ↓reduceIte, reduceCtorEq, nA, nB, nC, nD, nE, nF, h1] <;> and_intros <;> first | (apply hK1; clear hK1 K1) | (intros; first | omega | decide | (simp_all <;> omega)) | skip))))
      refine awp_cond (t := _) rfl (fun _ => ?_) (fun h2 => ?_)
      · (repeat (first | refine gO (by decide) ?_ | ((first | refine gM (mdL [(4, 1), (6, 1), (8, 1)]) ?_ | (with_reducible refine wM ?_ ?_) | ((with_reducible refine xS ?_); refine uF 10 (mdL [(4, 1), (6, 1), (8, 1)]) 7 pSRight_63_10E pSRight_63_10P 76 rfl (by kernel_rfl) ?_) | ((with_reducible refine xR ?_); refine uE 16 (mdL [(4, 1), (6, 1), (8, 1)]) pSRight_63_16E pSRight_63_16P 76 rfl (by kernel_rfl) ?_)) <;> ((try with_reducible intro K1 hK1); simp only [go_sem, ↓reduceIte, reduceCtorEq, nA, nB, nC, nD, nE, nF] <;> and_intros <;> first | (apply hK1; clear hK1 K1) | (intros; first | omega | decide | (simp_all <;> omega)) | skip))))
        refine (g_item i l (a + 1) h hl (by omega)).mono ?_; rintro _ _ ⟨t, ht, rfl, rfl⟩; apply hK1; clear hK1 K1
        have hlen := encX_len t
        have htk : List.take 6 (encX t) = encX t := List.take_of_length_le (Nat.le_of_eq hlen)
        (repeat (first | refine gO (by decide) ?_ | ((first | refine gM (mdL [(4, 1), (6, 1), (8, 1)]) ?_ | (with_reducible refine wM ?_ ?_) | ((with_reducible refine xS ?_); refine uF 10 (mdL [(4, 1), (6, 1), (8, 1)]) 7 pSRight_63_10E pSRight_63_10P 76 rfl (by kernel_rfl) ?_) | ((with_reducible refine xR ?_); refine uE 16 (mdL [(4, 1), (6, 1), (8, 1)]) pSRight_63_16E pSRight_63_16P 76 rfl (by kernel_rfl) ?_)) <;> ((try with_reducible intro K1 hK1); simp only [go_sem, ↓reduceIte, reduceCtorEq, nA, nB, nC, nD, nE, nF, hlen] <;> and_intros <;> first | (apply hK1; clear hK1 K1) | (intros; first | omega | decide | (simp_all <;> omega)) | skip))))
        simp only [Tryz.results63, go_sem, ↓reduceIte, reduceCtorEq, nA, nB, nC, nD, nE, nF, hlen, htk]
        exact ⟨_, _, Weak.refl _, Hp.le.refl _, t, a + 1 + 2, ht.mono (by omega), by omega, rfl, rfl⟩
      · (repeat (first | refine gO (by decide) ?_ | ((first | refine gM (mdL [(4, 1), (6, 1), (8, 1)]) ?_ | (with_reducible refine wM ?_ ?_) | ((with_reducible refine xS ?_); refine uF 10 (mdL [(4, 1), (6, 1), (8, 1)]) 7 pSRight_63_10E pSRight_63_10P 76 rfl (by kernel_rfl) ?_) | ((with_reducible refine xR ?_); refine uE 16 (mdL [(4, 1), (6, 1), (8, 1)]) pSRight_63_16E pSRight_63_16P 76 rfl (by kernel_rfl) ?_)) <;> ((try with_reducible intro K1 hK1); simp only [go_sem, ↓reduceIte, reduceCtorEq, nA, nB, nC, nD, nE, nF] <;> and_intros <;> first | (apply hK1; clear hK1 K1) | (intros; first | omega | decide | (simp_all <;> omega)) | skip))))
        refine (g_pick i l (a + 1) [2, 2, 3, 4, 5] none h hl (by omega) (by simp)).mono ?_; rintro _ _ ⟨kd, hkd, rfl, rfl⟩; apply hK1; clear hK1 K1
        (repeat (first | refine gO (by decide) ?_ | ((first | refine gM (mdL [(4, 1), (6, 1), (8, 1)]) ?_ | (with_reducible refine wM ?_ ?_) | ((with_reducible refine xS ?_); refine uF 10 (mdL [(4, 1), (6, 1), (8, 1)]) 7 pSRight_63_10E pSRight_63_10P 76 rfl (by kernel_rfl) ?_) | ((with_reducible refine xR ?_); refine uE 16 (mdL [(4, 1), (6, 1), (8, 1)]) pSRight_63_16E pSRight_63_16P 76 rfl (by kernel_rfl) ?_)) <;> ((try with_reducible intro K1 hK1); simp only [go_sem, ↓reduceIte, reduceCtorEq, nA, nB, nC, nD, nE, nF] <;> and_intros <;> first | (apply hK1; clear hK1 K1) | (intros; first | omega | decide | (simp_all <;> omega)) | skip))))
        refine (g_range i l (a + 1 + 1) 1 3 h hl (by omega) (by omega) (by omega) (by omega)).mono ?_; rintro _ _ ⟨many, hmany, rfl, rfl⟩; apply hK1; clear hK1 K1
        (repeat (first | refine gO (by decide) ?_ | ((first | refine gM (mdL [(4, 1), (6, 1), (8, 1)]) ?_ | (with_reducible refine wM ?_ ?_) | ((with_reducible refine xS ?_); refine uF 10 (mdL [(4, 1), (6, 1), (8, 1)]) 7 pSRight_63_10E pSRight_63_10P 76 rfl (by kernel_rfl) ?_) | ((with_reducible refine xR ?_); refine uE 16 (mdL [(4, 1), (6, 1), (8, 1)]) pSRight_63_16E pSRight_63_16P 76 rfl (by kernel_rfl) ?_)) <;> ((try with_reducible intro K1 hK1); simp only [go_sem, ↓reduceIte, reduceCtorEq, nA, nB, nC, nD, nE, nF] <;> and_intros <;> first | (apply hK1; clear hK1 K1) | (intros; first | omega | decide | (simp_all <;> omega)) | skip))))
        have hk5 : 2 ≤ kd ∧ kd ≤ 5 := by simp at hkd; omega
        clear hkd
        refine awp_join (rl false [1, 2, 1, 1, 1, 2, 68]) 2 (fun s => ∃ mn many a' : Int, (0 ≤ mn ∧ mn ≤ 3) ∧ (1 ≤ many ∧ many ≤ 3) ∧ (a ≤ a' ∧ a' ≤ a + 4) ∧
          s = ⟨(AV.junk :: ((.v (.int .i64 deep)) :: (.ref [.ptr i 0] 0) :: AV.junk :: ((.loc 0 0) :: AV.junk :: ((.loc 1 0) :: (.v (.int .i64 many)) :: (jnk 68 []))))),
            [[.v (.int .i64 0), .v (.string { data := #[] }), .v (.int .i64 0), .v (.int .i64 0), .v (.slice none 0 0), .v (.slice none 0 0)], [.v (.int .i64 kd), .v (.string { data := #[] }), .v (.int .i64 0), .v (.int .i64 mn), .v (.slice none 0 0), .v (.slice none 0 0)]], h.st i l a'⟩) ?_ ?_
        · refine awp_cond (t := _) rfl (fun h5 => ?_) (fun h5 => ?_)
          · (repeat (first | refine gO (by decide) ?_ | ((first | refine gM (mdL [(4, 1), (6, 1), (8, 1)]) ?_ | (with_reducible refine wM ?_ ?_) | ((with_reducible refine xS ?_); refine uF 10 (mdL [(4, 1), (6, 1), (8, 1)]) 7 pSRight_63_10E pSRight_63_10P 76 rfl (by kernel_rfl) ?_) | ((with_reducible refine xR ?_); refine uE 16 (mdL [(4, 1), (6, 1), (8, 1)]) pSRight_63_16E pSRight_63_16P 76 rfl (by kernel_rfl) ?_)) <;> ((try with_reducible intro K1 hK1); simp only [go_sem, ↓reduceIte, reduceCtorEq, nA, nB, nC, nD, nE, nF] <;> and_intros <;> first | (apply hK1; clear hK1 K1) | (intros; first | omega | decide | (simp_all <;> omega)) | skip))))
            refine (g_pick i l (a + 1 + 1 + 1) [1, 2, 3] none h hl (by omega) (by simp)).mono ?_; rintro _ _ ⟨mn, hmn, rfl, rfl⟩; apply hK1; clear hK1 K1
            (repeat (first | refine gO (by decide) ?_ | ((first | refine gM (mdL [(4, 1), (6, 1), (8, 1)]) ?_ | (with_reducible refine wM ?_ ?_) | ((with_reducible refine xS ?_); refine uF 10 (mdL [(4, 1), (6, 1), (8, 1)]) 7 pSRight_63_10E pSRight_63_10P 76 rfl (by kernel_rfl) ?_) | ((with_reducible refine xR ?_); refine uE 16 (mdL [(4, 1), (6, 1), (8, 1)]) pSRight_63_16E pSRight_63_16P 76 rfl (by kernel_rfl) ?_)) <;> ((try with_reducible intro K1 hK1); simp only [go_sem, ↓reduceIte, reduceCtorEq, nA, nB, nC, nD, nE, nF] <;> and_intros <;> first | (apply hK1; clear hK1 K1) | (intros; first | omega | decide | (simp_all <;> omega)) | skip))))
            exact ⟨mn, 1, _, by simp at hmn; omega, by omega, by omega, rfl⟩
          · (repeat (first | refine gO (by decide) ?_ | ((first | refine gM (mdL [(4, 1), (6, 1), (8, 1)]) ?_ | (with_reducible refine wM ?_ ?_) | ((with_reducible refine xS ?_); refine uF 10 (mdL [(4, 1), (6, 1), (8, 1)]) 7 pSRight_63_10E pSRight_63_10P 76 rfl (by kernel_rfl) ?_) | ((with_reducible refine xR ?_); refine uE 16 (mdL [(4, 1), (6, 1), (8, 1)]) pSRight_63_16E pSRight_63_16P 76 rfl (by kernel_rfl) ?_)) <;> ((try with_reducible intro K1 hK1); simp only [go_sem, ↓reduceIte, reduceCtorEq, nA, nB, nC, nD, nE, nF] <;> and_intros <;> first | (apply hK1; clear hK1 K1) | (intros; first | omega | decide | (simp_all <;> omega)) | skip))))
            exact ⟨0, many, _, by omega, hmany, by omega, rfl⟩
        · rintro _ ⟨mn, many, a', hmn, hmany2, ha', rfl⟩
          refine awp_ownLoc 1 4 6 rfl rfl (fun k1 hk1 => ?_)
          simp only [List.set_cons_zero, List.set_cons_succ]
          refine awp_via (fun s => ∃ (S : AV) (T' : Nat → Option TO), T' k1 = some (.tail 0) ∧ (kd = 4 ∧ (∃ k2, k2 ≠ k1 ∧ h.T k2 = none ∧ S = .row 1 [] (some k2) ∧ T' k2 = some (.tail 0)) ∨ kd ≠ 4 ∧ S = .v (.slice none 0 0)) ∧ (∀ k, h.T k ≠ none → T' k = h.T k) ∧
            s = ⟨(AV.junk :: ((.v (.int .i64 deep)) :: (.ref [.ptr i 0] 0) :: AV.junk :: ((.loc 0 0) :: AV.junk :: ((.loc 1 0) :: (.v (.int .i64 many)) :: (jnk 68 []))))),
              [[.v (.int .i64 0), .v (.string { data := #[] }), .v (.int .i64 0), .v (.int .i64 0), .v (.slice none 0 0), .v (.slice none 0 0)], [.v (.int .i64 kd), .v (.string { data := #[] }), .v (.int .i64 0), .v (.int .i64 mn), .row 6 [] (some k1), S]], Hp.st ⟨h.H, T'⟩ i l a'⟩) ?_ ?_
          rotate_left
          · intro main
            by_cases h4 : kd = 4
            · refine awp_ownLoc 1 5 1 rfl rfl (fun k2 hk2 => ?_)
              simp only [List.set_cons_zero, List.set_cons_succ]
              have hne : k2 ≠ k1 := fun e => by subst e; simp [upd_same] at hk2
              simp only [upd_other _ _ hne] at hk2
              refine main _ ⟨_, upd (upd h.T k1 (some (.tail 0))) k2 (some (.tail 0)), by rw [upd_other _ _ hne.symm, upd_same], .inl ⟨h4, k2, hne, hk2, rfl, upd_same _ _ _⟩, fun k hk => ?_, rfl⟩
              have e1 : k ≠ k1 := fun e => hk (e ▸ hk1)
              have e2 : k ≠ k2 := fun e => hk (e ▸ hk2)
              rw [upd_other _ _ e2, upd_other _ _ e1]
            · refine main _ ⟨_, upd h.T k1 (some (.tail 0)), upd_same _ _ _, .inr ⟨h4, rfl⟩, fun k hk => ?_, rfl⟩
              have e1 : k ≠ k1 := fun e => hk (e ▸ hk1)
              rw [upd_other _ _ e1]
          · rintro _ ⟨S, T', hT1, hS, hTT, rfl⟩
            (repeat (first | refine gO (by decide) ?_ | ((first | refine gM (mdL [(4, 1), (6, 1), (8, 1)]) ?_ | (with_reducible refine wM ?_ ?_) | ((with_reducible refine xS ?_); refine uF 10 (mdL [(4, 1), (6, 1), (8, 1)]) 7 pSRight_63_10E pSRight_63_10P 76 rfl (by kernel_rfl) ?_) | ((with_reducible refine xR ?_); refine uE 16 (mdL [(4, 1), (6, 1), (8, 1)]) pSRight_63_16E pSRight_63_16P 76 rfl (by kernel_rfl) ?_)) <;> ((try with_reducible intro K1 hK1); simp only [go_sem, ↓reduceIte, reduceCtorEq, nA, nB, nC, nD, nE, nF] <;> and_intros <;> first | (apply hK1; clear hK1 K1) | (intros; first | omega | decide | (simp_all <;> omega)) | skip))))
            refine awp_loopC (rl false [1, 2, 1, 1, 1, 1, 25, 2, 42]) 2 (fun g s => RightI d deep i l h kd mn many a' k1 g s) many.toNat ⟨[], [], S, T', a', by simp; omega, hT1, by
              rcases hS with ⟨x1, k2, x2, x5, x3, x4⟩ | ⟨x1, x2⟩
              · exact .inl ⟨x1, k2, x2, x5, x3, x4, rfl⟩
              · exact .inr ⟨x1, rfl, x2⟩, hTT, by simp, by simp, by simp, rfl⟩ ?_
            rintro n _ ⟨kids, shares, S, T2, a2, hn, hT1, hS, hTT, hkl, hsb, ha2, rfl⟩
            have hkn : (kids.length : Int) ≤ 3 := by omega
            have hcd : (kids.length : Int) * (costR d + 3) ≤ 3 * (costR d + 3) := Int.mul_le_mul_of_nonneg_right hkn (by omega)
            (repeat (first | refine gO (by decide) ?_ | ((first | refine gM (mdL [(4, 1), (6, 1), (8, 1)]) ?_ | (with_reducible refine wM ?_ ?_) | ((with_reducible refine xS ?_); refine uF 10 (mdL [(4, 1), (6, 1), (8, 1)]) 7 pSRight_63_10E pSRight_63_10P 76 rfl (by kernel_rfl) ?_) | ((with_reducible refine xR ?_); refine uE 16 (mdL [(4, 1), (6, 1), (8, 1)]) pSRight_63_16E pSRight_63_16P 76 rfl (by kernel_rfl) ?_)) <;> ((try with_reducible intro K1 hK1); simp only [go_sem, ↓reduceIte, reduceCtorEq, nA, nB, nC, nD, nE, nF] <;> and_intros <;> first | (apply hK1; clear hK1 K1) | (intros; first | omega | decide | (simp_all <;> omega)) | skip))))
            refine awp_cond (t := _) rfl (fun h5 => ?_) (fun h5 => ?_)
            rotate_left
            · (repeat (first | refine gO (by decide) ?_ | ((first | refine gM (mdL [(4, 1), (6, 1), (8, 1)]) ?_ | (with_reducible refine wM ?_ ?_) | ((with_reducible refine xS ?_); refine uF 10 (mdL [(4, 1), (6, 1), (8, 1)]) 7 pSRight_63_10E pSRight_63_10P 76 rfl (by kernel_rfl) ?_) | ((with_reducible refine xR ?_); refine uE 16 (mdL [(4, 1), (6, 1), (8, 1)]) pSRight_63_16E pSRight_63_16P 76 rfl (by kernel_rfl) ?_)) <;> ((try with_reducible intro K1 hK1); simp only [go_sem, ↓reduceIte, reduceCtorEq, nA, nB, nC, nD, nE, nF] <;> and_intros <;> first | (apply hK1; clear hK1 K1) | (intros; first | omega | decide | (simp_all <;> omega)) | skip))))
              simp only [Tryz.results63, go_sem, ↓reduceIte, reduceCtorEq, nA, nB, nC, nD, nE, nF]
              have hkl2 : (kids.length : Int) = many := by simp only [decide_eq_false_iff_not] at h5; omega
              refine ⟨_, _, ?_, le_st hTT i l a2, .mk kd default 0 mn kids shares, a2, ?_, by omega, rfl, rfl⟩
              · rw [encX_eq]
                refine Weak.agg (.cons (Weak.refl _) (.cons (Weak.refl _) (.cons (Weak.refl _) (.cons (Weak.refl _) (.cons ?_ (.cons ?_ .nil))))))
                · cases kids with
                  | nil => simp at hkl2; omega
                  | cons x xs => exact Weak.row _ _ _
                · rcases hS with ⟨_, k2, _, _, rfl, _, h6⟩ | ⟨_, rfl, rfl⟩
                  · cases shares with
                    | nil => simp at h6; omega
                    | cons x xs => exact Weak.row _ _ _
                  · exact Weak.refl _
              · refine ⟨by unfold NB; omega, by decide, by unfold NB; omega, by unfold NB; omega, by omega, ?_, hsb, hkl⟩
                rcases hS with ⟨_, k2, _, _, rfl, _, h6⟩ | ⟨_, rfl, rfl⟩
                · omega
                · simp
            · simp only [decide_eq_true_eq] at h5
              have hcd2 : (kids.length : Int) * (costR d + 3) ≤ 2 * (costR d + 3) := Int.mul_le_mul_of_nonneg_right (by omega) (by omega)
              have hd1 : 1 ≤ deep := by simp only [decide_eq_false_iff_not] at h1; omega
              (repeat (first | refine gO (by decide) ?_ | ((first | refine gM (mdL [(4, 1), (6, 1), (8, 1)]) ?_ | (with_reducible refine wM ?_ ?_) | ((with_reducible refine xS ?_); refine uF 10 (mdL [(4, 1), (6, 1), (8, 1)]) 7 pSRight_63_10E pSRight_63_10P 76 rfl (by kernel_rfl) ?_) | ((with_reducible refine xR ?_); refine uE 16 (mdL [(4, 1), (6, 1), (8, 1)]) pSRight_63_16E pSRight_63_16P 76 rfl (by kernel_rfl) ?_)) <;> ((try with_reducible intro K1 hK1); simp only [go_sem, ↓reduceIte, reduceCtorEq, nA, nB, nC, nD, nE, nF] <;> and_intros <;> first | (apply hK1; clear hK1 K1) | (intros; first | omega | decide | (simp_all <;> omega)) | skip))))
              refine (g_pick i l a2 [1, 1, 2] none ⟨h.H, T2⟩ hl (by omega) (by simp)).mono ?_; rintro _ _ ⟨dx, hdx, rfl, rfl⟩; apply hK1; clear hK1 K1
              have hdx2 : 1 ≤ dx ∧ dx ≤ 2 := by simp at hdx; omega
              (repeat (first | refine gO (by decide) ?_ | ((first | refine gM (mdL [(4, 1), (6, 1), (8, 1)]) ?_ | (with_reducible refine wM ?_ ?_) | ((with_reducible refine xS ?_); refine uF 10 (mdL [(4, 1), (6, 1), (8, 1)]) 7 pSRight_63_10E pSRight_63_10P 76 rfl (by kernel_rfl) ?_) | ((with_reducible refine xR ?_); refine uE 16 (mdL [(4, 1), (6, 1), (8, 1)]) pSRight_63_16E pSRight_63_16P 76 rfl (by kernel_rfl) ?_)) <;> ((try with_reducible intro K1 hK1); simp only [go_sem, ↓reduceIte, reduceCtorEq, nA, nB, nC, nD, nE, nF] <;> and_intros <;> first | (apply hK1; clear hK1 K1) | (intros; first | omega | decide | (simp_all <;> omega)) | skip))))
              refine (g_right d (deep - dx) (by omega) i l (a2 + 1) ⟨h.H, T2⟩ hl (by omega)).mono ?_; rintro _ _ ⟨t, a3, ht, ha3, rfl, rfl⟩; apply hK1; clear hK1 K1
              have hlen := encX_len t
              (repeat (first | refine gQ (by decide) ?_ | ((first | refine gM (mdL [(4, 1), (6, 1), (8, 1)]) ?_ | (with_reducible refine wM ?_ ?_) | ((with_reducible refine xS ?_); refine uF 10 (mdL [(4, 1), (6, 1), (8, 1)]) 7 pSRight_63_10E pSRight_63_10P 76 rfl (by kernel_rfl) ?_) | ((with_reducible refine xR ?_); refine uE 16 (mdL [(4, 1), (6, 1), (8, 1)]) pSRight_63_16E pSRight_63_16P 76 rfl (by kernel_rfl) ?_)) <;> ((try with_reducible intro K1 hK1); simp only [go_sem, ↓reduceIte, reduceCtorEq, nA, nB, nC, nD, nE, nF, hlen] <;> and_intros <;> first | (apply hK1; clear hK1 K1) | (intros; first | omega | decide | (simp_all <;> omega)) | skip))))
              refine awp_seq ?_
              refine awp_join (rl false [1, 2, 1, 1, 1, 1, 1, 1, 23, 2, 42]) 3 (fun s => ∃ t a4, LB (d + 1) t ∧ (a2 ≤ a4 ∧ a4 ≤ a2 + costR d + 2) ∧
                s = ⟨(AV.junk :: ((.v (.int .i64 deep)) :: (.ref [.ptr i 0] 0) :: AV.junk :: ((.loc 0 0) :: AV.junk :: ((.loc 1 0) :: AV.junk :: ((.loc 2 0) :: (jnk 23 ((.v (.int .i64 many)) :: (.v (.int .i64 kids.length)) :: (jnk 42 [])))))))),
                  [[.v (.int .i64 0), .v (.string { data := #[] }), .v (.int .i64 0), .v (.int .i64 0), .v (.slice none 0 0), .v (.slice none 0 0)], [.v (.int .i64 kd), .v (.string { data := #[] }), .v (.int .i64 0), .v (.int .i64 mn), .row 6 (kids.map encX) (some k1), S], encX t], Hp.st ⟨h.H, T2⟩ i l a4⟩) ?_ ?_
              · (repeat (first | refine gO (by decide) ?_ | ((first | refine gM (mdL [(4, 1), (6, 1), (8, 1)]) ?_ | (with_reducible refine wM ?_ ?_) | ((with_reducible refine xS ?_); refine uF 10 (mdL [(4, 1), (6, 1), (8, 1)]) 7 pSRight_63_10E pSRight_63_10P 76 rfl (by kernel_rfl) ?_) | ((with_reducible refine xR ?_); refine uE 16 (mdL [(4, 1), (6, 1), (8, 1)]) pSRight_63_16E pSRight_63_16P 76 rfl (by kernel_rfl) ?_)) <;> ((try with_reducible intro K1 hK1); simp only [go_sem, ↓reduceIte, reduceCtorEq, nA, nB, nC, nD, nE, nF] <;> and_intros <;> first | (apply hK1; clear hK1 K1) | (intros; first | omega | decide | (simp_all <;> omega)) | skip))))
                rotate_left
                · intro h6
                  refine hK1 _ ?_; clear hK1 K1
                  (repeat (first | refine gO (by decide) ?_ | ((first | refine gM (mdL [(4, 1), (6, 1), (8, 1)]) ?_ | (with_reducible refine wM ?_ ?_) | ((with_reducible refine xS ?_); refine uF 10 (mdL [(4, 1), (6, 1), (8, 1)]) 7 pSRight_63_10E pSRight_63_10P 76 rfl (by kernel_rfl) ?_) | ((with_reducible refine xR ?_); refine uE 16 (mdL [(4, 1), (6, 1), (8, 1)]) pSRight_63_16E pSRight_63_16P 76 rfl (by kernel_rfl) ?_)) <;> ((try with_reducible intro K1 hK1); simp only [go_sem, ↓reduceIte, reduceCtorEq, nA, nB, nC, nD, nE, nF, h6] <;> and_intros <;> first | (apply hK1; clear hK1 K1) | (intros; first | omega | decide | (simp_all <;> omega)) | skip))))
                  refine awp_cond (t := _) rfl (fun h7 => by cases h7) (fun h7 => ?_)
                  (repeat (first | refine gO (by decide) ?_ | ((first | refine gM (mdL [(4, 1), (6, 1), (8, 1)]) ?_ | (with_reducible refine wM ?_ ?_) | ((with_reducible refine xS ?_); refine uF 10 (mdL [(4, 1), (6, 1), (8, 1)]) 7 pSRight_63_10E pSRight_63_10P 76 rfl (by kernel_rfl) ?_) | ((with_reducible refine xR ?_); refine uE 16 (mdL [(4, 1), (6, 1), (8, 1)]) pSRight_63_16E pSRight_63_16P 76 rfl (by kernel_rfl) ?_)) <;> ((try with_reducible intro K1 hK1); simp only [go_sem, ↓reduceIte, reduceCtorEq, nA, nB, nC, nD, nE, nF] <;> and_intros <;> first | (apply hK1; clear hK1 K1) | (intros; first | omega | decide | (simp_all <;> omega)) | skip))))
                  exact ⟨t, a3, ht, by omega, rfl⟩
                · intro h6
                  refine ⟨h6, ?_⟩
                  refine (g_flip i l a3 3 ⟨h.H, T2⟩ hl (by omega) (by omega)).mono ?_
                  rintro _ _ ⟨b2, rfl, rfl⟩
                  refine ⟨rfl, hK1 _ ?_⟩; clear hK1 K1
                  (repeat (first | refine gO (by decide) ?_ | ((first | refine gM (mdL [(4, 1), (6, 1), (8, 1)]) ?_ | (with_reducible refine wM ?_ ?_) | ((with_reducible refine xS ?_); refine uF 10 (mdL [(4, 1), (6, 1), (8, 1)]) 7 pSRight_63_10E pSRight_63_10P 76 rfl (by kernel_rfl) ?_) | ((with_reducible refine xR ?_); refine uE 16 (mdL [(4, 1), (6, 1), (8, 1)]) pSRight_63_16E pSRight_63_16P 76 rfl (by kernel_rfl) ?_)) <;> ((try with_reducible intro K1 hK1); simp only [go_sem, ↓reduceIte, reduceCtorEq, nA, nB, nC, nD, nE, nF, h6] <;> and_intros <;> first | (apply hK1; clear hK1 K1) | (intros; first | omega | decide | (simp_all <;> omega)) | skip))))
                  refine awp_cond (t := _) rfl (fun h7 => ?_) (fun h7 => ?_)
                  · simp only [decide_eq_true_eq] at h6
                    have hg : (kids.map encX).getD ((kids.length : Int) - 1).toNat [] = encX (kids.getD ((kids.length : Int) - 1).toNat default) := getD_encX (by omega)
                    have hm : kids.getD ((kids.length : Int) - 1).toNat default ∈ kids := by
                      rw [List.getD_eq_getElem?_getD, List.getElem?_eq_getElem (show ((kids.length : Int) - 1).toNat < kids.length by omega)]
                      exact List.getElem_mem _
                    generalize kids.getD ((kids.length : Int) - 1).toNat default = t2 at hg hm
                    have hlen2 := encX_len t2
                    have htk2 : List.take 6 (encX t2) = encX t2 := List.take_of_length_le (Nat.le_of_eq hlen2)
                    have hdr : List.drop 6 (encX t) = [] := List.drop_of_length_le (Nat.le_of_eq hlen)
                    (repeat (first | refine gO (by decide) ?_ | ((first | refine gM (mdL [(4, 1), (6, 1), (8, 1)]) ?_ | (with_reducible refine wM ?_ ?_) | ((with_reducible refine xS ?_); refine uF 10 (mdL [(4, 1), (6, 1), (8, 1)]) 7 pSRight_63_10E pSRight_63_10P 76 rfl (by kernel_rfl) ?_) | ((with_reducible refine xR ?_); refine uE 16 (mdL [(4, 1), (6, 1), (8, 1)]) pSRight_63_16E pSRight_63_16P 76 rfl (by kernel_rfl) ?_)) <;> ((try with_reducible intro K1 hK1); simp only [go_sem, ↓reduceIte, reduceCtorEq, nA, nB, nC, nD, nE, nF, hg, hlen, hlen2, htk2, hdr] <;> and_intros <;> first | (apply hK1; clear hK1 K1) | (intros; first | omega | decide | (simp_all <;> omega)) | skip))))
                    exact ⟨t2, a3 + 1, hkl _ hm, by omega, rfl⟩
                  · (repeat (first | refine gO (by decide) ?_ | ((first | refine gM (mdL [(4, 1), (6, 1), (8, 1)]) ?_ | (with_reducible refine wM ?_ ?_) | ((with_reducible refine xS ?_); refine uF 10 (mdL [(4, 1), (6, 1), (8, 1)]) 7 pSRight_63_10E pSRight_63_10P 76 rfl (by kernel_rfl) ?_) | ((with_reducible refine xR ?_); refine uE 16 (mdL [(4, 1), (6, 1), (8, 1)]) pSRight_63_16E pSRight_63_16P 76 rfl (by kernel_rfl) ?_)) <;> ((try with_reducible intro K1 hK1); simp only [go_sem, ↓reduceIte, reduceCtorEq, nA, nB, nC, nD, nE, nF] <;> and_intros <;> first | (apply hK1; clear hK1 K1) | (intros; first | omega | decide | (simp_all <;> omega)) | skip))))
                    exact ⟨t, a3 + 1, ht, by omega, rfl⟩
              · clear ht ha3 hlen t a3
                rintro _ ⟨t, a4, ht, ha4, rfl⟩
                have hlen := encX_len t
                have htk : List.take 6 (encX t) = encX t := List.take_of_length_le (Nat.le_of_eq hlen)
                (repeat (first | refine gO (by decide) ?_ | ((first | refine gM (mdL [(4, 1), (6, 1), (8, 1)]) ?_ | (with_reducible refine wM ?_ ?_) | ((with_reducible refine xS ?_); refine uF 10 (mdL [(4, 1), (6, 1), (8, 1)]) 7 pSRight_63_10E pSRight_63_10P 76 rfl (by kernel_rfl) ?_) | ((with_reducible refine xR ?_); refine uE 16 (mdL [(4, 1), (6, 1), (8, 1)]) pSRight_63_16E pSRight_63_16P 76 rfl (by kernel_rfl) ?_)) <;> ((try with_reducible intro K1 hK1); simp only [go_sem, ↓reduceIte, reduceCtorEq, nA, nB, nC, nD, nE, nF, hlen, htk, hT1, st_T] <;> and_intros <;> first | (apply hK1; clear hK1 K1) | (intros; first | omega | decide | (simp_all <;> omega)) | skip))))
                rcases hS with ⟨h4, k2, hne, hk2, rfl, hT3, hsl⟩ | ⟨h4, rfl, rfl⟩
                · refine awp_cond (t := _) rfl (fun _ => ?_) (fun h7 => absurd h4 (by simpa using h7))
                  have hT4 : upd T2 k1 (some (.tail (kids.length + 1))) k2 = some (.tail shares.length) := by rw [upd_other _ _ hne]; exact hT3
                  (repeat (first | refine gO (by decide) ?_ | ((first | refine gM (mdL [(4, 1), (6, 1), (8, 1)]) ?_ | (with_reducible refine wM ?_ ?_) | ((with_reducible refine xS ?_); refine uF 10 (mdL [(4, 1), (6, 1), (8, 1)]) 7 pSRight_63_10E pSRight_63_10P 76 rfl (by kernel_rfl) ?_) | ((with_reducible refine xR ?_); refine uE 16 (mdL [(4, 1), (6, 1), (8, 1)]) pSRight_63_16E pSRight_63_16P 76 rfl (by kernel_rfl) ?_)) <;> ((try with_reducible intro K1 hK1); simp only [go_sem, ↓reduceIte, reduceCtorEq, nA, nB, nC, nD, nE, nF, hT4, st_T] <;> and_intros <;> first | (apply hK1; clear hK1 K1) | (intros; first | omega | decide | (simp_all <;> omega)) | skip))))
                  refine (g_pick i l a4 [1, 1, 2, 3, 4] none ⟨h.H, upd T2 k1 (some (.tail (kids.length + 1)))⟩ hl (by omega) (by simp)).mono ?_; rintro _ _ ⟨sx, hsx, rfl, rfl⟩; apply hK1; clear hK1 K1
                  (repeat (first | refine gO (by decide) ?_ | ((first | refine gM (mdL [(4, 1), (6, 1), (8, 1)]) ?_ | (with_reducible refine wM ?_ ?_) | ((with_reducible refine xS ?_); refine uF 10 (mdL [(4, 1), (6, 1), (8, 1)]) 7 pSRight_63_10E pSRight_63_10P 76 rfl (by kernel_rfl) ?_) | ((with_reducible refine xR ?_); refine uE 16 (mdL [(4, 1), (6, 1), (8, 1)]) pSRight_63_16E pSRight_63_16P 76 rfl (by kernel_rfl) ?_)) <;> ((try with_reducible intro K1 hK1); simp only [go_sem, ↓reduceIte, reduceCtorEq, nA, nB, nC, nD, nE, nF, hT4, st_T, encI] <;> and_intros <;> first | (apply hK1; clear hK1 K1) | (intros; first | omega | decide | (simp_all <;> omega)) | skip))))
                  refine ⟨n - 1, by omega, kids ++ [t], shares ++ [sx], _, upd (upd T2 k1 (some (.tail (kids.length + 1)))) k2 (some (.tail (shares.length + 1))), a4 + 1, by simp; omega, by rw [upd_other _ _ hne.symm, upd_same]; simp, .inl ⟨h4, k2, hne, hk2, by simp [encI]; rfl, by rw [upd_same]; simp, by simp; omega⟩, ?_, ?_, ?_, ?_, ?_⟩
                  · intro k hk
                    have e1 : k ≠ k1 := fun e => hk (e ▸ hk1)
                    by_cases e2 : k = k2
                    · subst e2; exact absurd hk2 hk
                    · rw [upd_other _ _ e2, upd_other _ _ e1]; exact hTT k hk
                  · intro x hx
                    rcases List.mem_append.1 hx with hx | hx
                    · exact hkl x hx
                    · simp at hx; subst hx; exact ht
                  · intro x hx
                    rcases List.mem_append.1 hx with hx | hx
                    · exact hsb x hx
                    · simp at hx hsx; subst hx; unfold NB; omega
                  · have e9 : ((kids ++ [t]).length : Int) * (costR d + 3) = kids.length * (costR d + 3) + (costR d + 3) := by simp [Int.add_mul]
                    rw [e9]; omega
                  · simp; rfl
                · refine awp_cond (t := _) rfl (fun h7 => absurd (by simpa using h7) h4) (fun _ => ?_)
                  (repeat (first | refine gO (by decide) ?_ | ((first | refine gM (mdL [(4, 1), (6, 1), (8, 1)]) ?_ | (with_reducible refine wM ?_ ?_) | ((with_reducible refine xS ?_); refine uF 10 (mdL [(4, 1), (6, 1), (8, 1)]) 7 pSRight_63_10E pSRight_63_10P 76 rfl (by kernel_rfl) ?_) | ((with_reducible refine xR ?_); refine uE 16 (mdL [(4, 1), (6, 1), (8, 1)]) pSRight_63_16E pSRight_63_16P 76 rfl (by kernel_rfl) ?_)) <;> ((try with_reducible intro K1 hK1); simp only [go_sem, ↓reduceIte, reduceCtorEq, nA, nB, nC, nD, nE, nF] <;> and_intros <;> first | (apply hK1; clear hK1 K1) | (intros; first | omega | decide | (simp_all <;> omega)) | skip))))
                  refine ⟨n - 1, by omega, kids ++ [t], [], _, upd T2 k1 (some (.tail (kids.length + 1))), a4, by simp; omega, by rw [upd_same]; simp, .inr ⟨h4, rfl, rfl⟩, ?_, ?_, ?_, ?_, ?_⟩
                  · intro k hk
                    have e1 : k ≠ k1 := fun e => hk (e ▸ hk1)
                    rw [upd_other _ _ e1]; exact hTT k hk
                  · intro x hx
                    rcases List.mem_append.1 hx with hx | hx
                    · exact hkl x hx
                    · simp at hx; subst hx; exact ht
                  · simp
                  · have e9 : ((kids ++ [t]).length : Int) * (costR d + 3) = kids.length * (costR d + 3) + (costR d + 3) := by simp [Int.add_mul]
                    rw [e9]; omega
                  · simp; rfl
abbrev pSLoop_8_17E : List Nat := [0, 1, 2, 3, 4, 5, 6]
abbrev pSLoop_8_17P : List (Nat × List Nat × List Nat) := [(7, [4], [8]), (9, [], [10, 11]), (12, [], [])]
attribute [go_sem] pSLoop_8_17E pSLoop_8_17P
theorem st_obj {h : Hp} {i o : Nat} (hio : o ≠ i) (l : List Int) (a : Int) (x : AO) (T1 : Nat → Option TO) : ({ H := upd (h.st i l a).H o (some x), T := T1 } : Hp) = Hp.st ⟨upd h.H o (some x), T1⟩ i l a := by
  simp only [Hp.st]
  congr 1
  funext j
  by_cases hj : j = o
  · subst hj; rw [upd_same, upd_other _ _ hio, upd_same]
  · by_cases hji : j = i
    · subst hji; rw [upd_other _ _ hj, upd_same, upd_same]
    · rw [upd_other _ _ hj, upd_other _ _ hji, upd_other _ _ hji, upd_other _ _ hj]
theorem st_obj2 {h : Hp} {i o : Nat} (hio : o ≠ i) (l : List Int) (b : Int) (X : Option AO) (Y : AO) (T1 T2 : Nat → Option TO) : ({ H := upd (Hp.st ⟨upd h.H o X, T1⟩ i l b).H o (some Y), T := T2 } : Hp) = Hp.st ⟨upd h.H o (some Y), T2⟩ i l b := by
  rw [st_obj hio]; simp only [upd_upd]
theorem st_mk3 {s : St} {sl : List AV} {lo : List (List AV)} {h : Hp} (h1 : s.sl = sl) (h2 : s.lo = lo) (h3 : s.h = h) : s = ⟨sl, lo, h⟩ := by cases s; simp_all
section
variable {b : Bool} {T : Nat → Option TO} {S : Nat → Prop} {e : Nat} {k i l m K Sh : AV}
theorem OLd.kind {r : List AV} (h : OLd b T S e (k :: r)) {k' : Int} (hk : NB k') : OLd b T S e (.v (.int .i64 k') :: r) := by
  cases e with
  | zero => exact h.elim
  | succ e =>
    obtain ⟨kind, item, long, many, K, Sh, he, ⟨h0, h1, h2, h3⟩, h4, h5⟩ := h
    cases he
    exact ⟨_, _, _, _, _, _, rfl, ⟨hk, h1, h2, h3⟩, h4, h5⟩
theorem OLd.il (h : OLd b T S e [k, i, l, m, K, Sh]) {i' : ByteArray} {l' : Int} (hi : i'.size ≤ 2) (hk : NB l') : OLd b T S e [k, .v (.string i'), .v (.int .i64 l'), m, K, Sh] := by
  cases e with
  | zero => exact h.elim
  | succ e =>
    obtain ⟨kind, item, long, many, K, Sh, he, ⟨h0, h1, h2, h3⟩, h4, h5⟩ := h
    cases he
    exact ⟨_, _, _, _, _, _, rfl, ⟨h0, hi, hk, h3⟩, h4, h5⟩
theorem OLd.many (h : OLd b T S e [k, i, l, m, K, Sh]) {l' : Int} (hk : NB l') : OLd b T S e [k, i, l, .v (.int .i64 l'), K, Sh] := by
  cases e with
  | zero => exact h.elim
  | succ e =>
    obtain ⟨kind, item, long, many, K, Sh, he, ⟨h0, h1, h2, h3⟩, h4, h5⟩ := h
    cases he
    exact ⟨_, _, _, _, _, _, rfl, ⟨h0, h1, h2, hk⟩, h4, h5⟩
theorem OLd.nokids (h : OLd b T S e [k, i, l, m, K, Sh]) : OLd b T S e [k, i, l, m, .v (.slice none 0 0), Sh] := by
  cases e with
  | zero => exact h.elim
  | succ e =>
    obtain ⟨kind, item, long, many, K, Sh, he, h3, h4, h5⟩ := h
    cases he
    exact ⟨_, _, _, _, _, _, rfl, h3, .inl rfl, h5⟩
theorem OLd.share (h : OLd false T S e [k, i, l, m, K, Sh]) {xs : List Int} {q : Nat} (hx : xs.length ≤ 5) (hb : ∀ x ∈ xs, NB x) : OLd false T S e [k, i, l, m, K, .row 1 (xs.map encI) (some q)] := by
  cases e with
  | zero => exact h.elim
  | succ e =>
    obtain ⟨kind, item, long, many, K, Sh, he, h3, h4, h5⟩ := h
    cases he
    exact ⟨_, _, _, _, _, _, rfl, h3, h4, .inr ⟨xs, q, rfl, hx, hb, fun h => by cases h⟩⟩
theorem OLd.wrap {cs : List AV} (h : OLd false T S e cs) {k' m' : Int} (hk : NB k') (hm : NB m') : OLd false T S (e + 1) [.v (.int .i64 k'), .v (.string { data := #[] }), .v (.int .i64 0), .v (.int .i64 m'), .row 6 [cs] none, .v (.slice none 0 0)] :=
  ⟨_, _, _, _, _, _, rfl, ⟨hk, by decide, by unfold NB; omega, hm⟩, .inr (.inr ⟨rfl, _, rfl, by simp, by simpa using h⟩), .inl rfl⟩
end
def LoopJ (i o : Nat) (l : List Int) (a b : Int) (h : Hp) (bb : Bool) (d : Nat) (s : St) : Prop :=
  ∃ cs T' a', OLd bb T' (fun k => h.T k = none) d cs ∧ (∀ k, h.T k ≠ none → T' k = h.T k) ∧ (a ≤ a' ∧ a' ≤ b) ∧
    s = ⟨((.ptr i 0) :: (jnk 3 ((.loc 0 0) :: (.ptr o 0) :: (jnk 77 [])))), [[.v (.int .i64 0), .v (.string { data := #[] }), .v (.int .i64 0), .v (.int .i64 0), .v (.slice none 0 0), .v (.slice none 0 0)]], Hp.st ⟨upd h.H o (some (.cells cs)), T'⟩ i l a'⟩
theorem g_Loop0 (d : Nat) (deep : Int) (hd : deep ≤ d ∧ -10 ≤ deep ∧ d ≤ 100) (i : Nat) (l : List Int) (a : Int) (h : Hp) (hl : SOk l) (ha : 0 ≤ a ∧ a + costR d + 2 * d + 40 ≤ 900000000) :
    ACalls Tryz.prog 8 [.ptr i 0, .v (.int .i64 deep)] (h.st i l a) (fun r h' => ∃ cs T' a', OLd false T' (fun k => h.T k = none) (d + 20) cs ∧ (∀ k, h.T k ≠ none → T' k = h.T k) ∧ (a ≤ a' ∧ a' ≤ a + costR d + 2 * d + 40) ∧ r = .agg cs ∧ h' = Hp.st ⟨h.H, T'⟩ i l a') := by
  refine gE Tryz.func8 rfl (by kernel_rfl) 81 rfl fun c => ?_
  (repeat (first | refine gO (by decide) ?_ | ((first | refine gM (mdL [(4, 1), (5, 2), (7, 1), (8, 1)]) ?_ | (with_reducible refine wM ?_ ?_) | ((with_reducible refine xR ?_); refine uE 17 (mdL [(4, 1), (5, 2), (7, 1), (8, 1)]) pSLoop_8_17E pSLoop_8_17P 83 rfl (by kernel_rfl) ?_)) <;> ((try with_reducible intro K1 hK1); simp only [go_sem, ↓reduceIte, reduceCtorEq, nA, nB, nC, nD, nE, nF] <;> and_intros <;> first | (apply hK1; clear hK1 K1) | (intros; first | omega | decide | (simp_all <;> omega)) | skip))))
  refine (g_right d deep hd i l a h hl (by omega)).mono ?_; rintro _ _ ⟨t, a1, ht, ha1, rfl, rfl⟩; apply hK1; clear hK1 K1
  (repeat (first | refine gO (by decide) ?_ | ((first | refine gM (mdL [(4, 1), (5, 2), (7, 1), (8, 1)]) ?_ | (with_reducible refine wM ?_ ?_) | ((with_reducible refine xR ?_); refine uE 17 (mdL [(4, 1), (5, 2), (7, 1), (8, 1)]) pSLoop_8_17E pSLoop_8_17P 83 rfl (by kernel_rfl) ?_)) <;> ((try with_reducible intro K1 hK1); simp only [go_sem, ↓reduceIte, reduceCtorEq, nA, nB, nC, nD, nE, nF] <;> and_intros <;> first | (apply hK1; clear hK1 K1) | (intros; first | omega | decide | (simp_all <;> omega)) | skip))))
  refine (g_copied (d + 1) t (h.st i l a1) ht).mono ?_
  rintro _ _ ⟨cs, T1, hcs, hT1, rfl, rfl⟩
  refine hK1 _ ?_; clear hK1 K1
  have hcsl := hcs.len
  have htk : List.take 6 cs = cs := List.take_of_length_le (Nat.le_of_eq hcsl)
  have hdr : List.drop 6 cs = [] := List.drop_of_length_le (Nat.le_of_eq hcsl)
  (repeat (first | refine gQ (by decide) ?_ | ((first | refine gM (mdL [(4, 1), (5, 2), (7, 1), (8, 1)]) ?_ | (with_reducible refine wM ?_ ?_) | ((with_reducible refine xR ?_); refine uE 17 (mdL [(4, 1), (5, 2), (7, 1), (8, 1)]) pSLoop_8_17E pSLoop_8_17P 83 rfl (by kernel_rfl) ?_)) <;> ((try with_reducible intro K1 hK1); simp only [go_sem, ↓reduceIte, reduceCtorEq, nA, nB, nC, nD, nE, nF, hcsl, htk, hdr] <;> and_intros <;> first | (apply hK1; clear hK1 K1) | (intros; first | omega | decide | (simp_all <;> omega)) | skip))))
  intro o ho
  have hio : o ≠ i := fun e => by subst e; rw [st_at] at ho; cases ho
  and_intros <;> first | (refine hK1 _ ?_; clear hK1 K1) | exact .inl trivial | exact .inr rfl | exact .inr True.intro | exact True.intro | omega
  rw [st_obj hio]
  replace hcs : OLd true T1 (fun k => h.T k = none) (d + 1) cs := hcs
  replace hT1 : ∀ k, h.T k ≠ none → T1 k = h.T k := hT1
  (repeat (first | refine gQ (by decide) ?_ | ((first | refine gM (mdL [(4, 1), (5, 2), (7, 1), (8, 1)]) ?_ | (with_reducible refine wM ?_ ?_) | ((with_reducible refine xR ?_); refine uE 17 (mdL [(4, 1), (5, 2), (7, 1), (8, 1)]) pSLoop_8_17E pSLoop_8_17P 83 rfl (by kernel_rfl) ?_)) <;> ((try with_reducible intro K1 hK1); simp only [go_sem, ↓reduceIte, reduceCtorEq, nA, nB, nC, nD, nE, nF] <;> and_intros <;> first | (apply hK1; clear hK1 K1) | (intros; first | omega | decide | (simp_all <;> omega)) | skip))))
  refine awp_seq ?_
  refine awp_join (rl false [0, 1, 3, 2, 77]) 1 (fun s => LoopJ i o l a (a + costR d + 2 * d + 40) h false (d + 20) s) ?_ ?_
  rotate_left
  · rintro _ ⟨cs, T', a', hcs, hT', ha', rfl⟩
    have hcsl := hcs.len
    have htk : List.take 6 cs = cs := List.take_of_length_le (Nat.le_of_eq hcsl)
    have hdr : List.drop 6 cs = [] := List.drop_of_length_le (Nat.le_of_eq hcsl)
    have hH : (Hp.st ⟨upd h.H o (some (.cells cs)), T'⟩ i l a').H o = some (.cells cs) := by simp only [Hp.st, upd_other _ _ hio, upd_same]
    (repeat (first | refine gO (by decide) ?_ | ((first | refine gM (mdL [(4, 1), (5, 2), (7, 1), (8, 1)]) ?_ | (with_reducible refine wM ?_ ?_) | ((with_reducible refine xR ?_); refine uE 17 (mdL [(4, 1), (5, 2), (7, 1), (8, 1)]) pSLoop_8_17E pSLoop_8_17P 83 rfl (by kernel_rfl) ?_)) <;> ((try with_reducible intro K1 hK1); simp only [go_sem, ↓reduceIte, reduceCtorEq, nA, nB, nC, nD, nE, nF, hcsl, htk, hdr, hH] <;> and_intros <;> first | (apply hK1; clear hK1 K1) | (intros; first | omega | decide | (simp_all <;> omega)) | skip))))
    simp only [Tryz.results8, go_sem, ↓reduceIte, reduceCtorEq, nA, nB, nC, nD, nE, nF, hcsl, htk, hdr]
    refine ⟨_, Hp.st ⟨h.H, T'⟩ i l a', Weak.refl _, ⟨fun j => ?_, fun k => .inr rfl⟩, cs, T', a', hcs, hT', ha', rfl, rfl⟩
    simp only [Hp.st] at ho ⊢
    rw [upd_other _ _ hio] at ho
    by_cases hj : j = i
    · subst hj; exact .inr (by rw [upd_same, upd_same])
    · by_cases hjo : j = o
      · subst hjo; exact .inl (by rw [upd_other _ _ hj]; exact ho)
      · exact .inr (by rw [upd_other _ _ hj, upd_other _ _ hj, upd_other _ _ hjo])
  · (repeat (first | refine gO (by decide) ?_ | ((first | refine gM (mdL [(4, 1), (5, 2), (7, 1), (8, 1)]) ?_ | (with_reducible refine wM ?_ ?_) | ((with_reducible refine xR ?_); refine uE 17 (mdL [(4, 1), (5, 2), (7, 1), (8, 1)]) pSLoop_8_17E pSLoop_8_17P 83 rfl (by kernel_rfl) ?_)) <;> ((try with_reducible intro K1 hK1); simp only [go_sem, ↓reduceIte, reduceCtorEq, nA, nB, nC, nD, nE, nF] <;> and_intros <;> first | (apply hK1; clear hK1 K1) | (intros; first | omega | decide | (simp_all <;> omega)) | skip))))
    refine (g_flip i l a1 10 ⟨upd h.H o (some (.cells cs)), T1⟩ hl (by omega) (by omega)).mono ?_; rintro _ _ ⟨b, rfl, rfl⟩; apply hK1; clear hK1 K1
    (repeat (first | refine gO (by decide) ?_ | ((first | refine gM (mdL [(4, 1), (5, 2), (7, 1), (8, 1)]) ?_ | (with_reducible refine wM ?_ ?_) | ((with_reducible refine xR ?_); refine uE 17 (mdL [(4, 1), (5, 2), (7, 1), (8, 1)]) pSLoop_8_17E pSLoop_8_17P 83 rfl (by kernel_rfl) ?_)) <;> ((try with_reducible intro K1 hK1); simp only [go_sem, ↓reduceIte, reduceCtorEq, nA, nB, nC, nD, nE, nF] <;> and_intros <;> first | (apply hK1; clear hK1 K1) | (intros; first | omega | decide | (simp_all <;> omega)) | skip))))
    refine awp_cond (t := _) rfl (fun hb => ?_) (fun hb => ?_)
    rotate_left
    · (repeat (first | refine gO (by decide) ?_ | ((first | refine gM (mdL [(4, 1), (5, 2), (7, 1), (8, 1)]) ?_ | (with_reducible refine wM ?_ ?_) | ((with_reducible refine xR ?_); refine uE 17 (mdL [(4, 1), (5, 2), (7, 1), (8, 1)]) pSLoop_8_17E pSLoop_8_17P 83 rfl (by kernel_rfl) ?_)) <;> ((try with_reducible intro K1 hK1); simp only [go_sem, ↓reduceIte, reduceCtorEq, nA, nB, nC, nD, nE, nF] <;> and_intros <;> first | (apply hK1; clear hK1 K1) | (intros; first | omega | decide | (simp_all <;> omega)) | skip))))
      exact ⟨cs, T1, a1 + 1, hcs.weaken.up (by omega), hT1, by omega, rfl⟩
    · (repeat (first | refine gO (by decide) ?_ | ((first | refine gM (mdL [(4, 1), (5, 2), (7, 1), (8, 1)]) ?_ | (with_reducible refine wM ?_ ?_) | ((with_reducible refine xR ?_); refine uE 17 (mdL [(4, 1), (5, 2), (7, 1), (8, 1)]) pSLoop_8_17E pSLoop_8_17P 83 rfl (by kernel_rfl) ?_)) <;> ((try with_reducible intro K1 hK1); simp only [go_sem, ↓reduceIte, reduceCtorEq, nA, nB, nC, nD, nE, nF] <;> and_intros <;> first | (apply hK1; clear hK1 K1) | (intros; first | omega | decide | (simp_all <;> omega)) | skip))))
      refine (g_inner i o l (a1 + 1) ⟨upd h.H o (some (.cells cs)), T1⟩ hl (fun k => h.T k = none) (d + 1) cs (by omega) hio (upd_same _ _ _) hcs).mono ?_
      rintro p _ ⟨cs2, e, a2, ha2, hp, hcs2, rfl⟩
      have o3 : OneV p := by rcases hp with ⟨rfl, _⟩ | ⟨q, css, j, _, _, _, rfl, _⟩ <;> exact ⟨rfl, rfl, rfl, rfl, rfl⟩
      obtain ⟨w1, w2, w3, w4, w5⟩ := o3
      unfold uside at w1; unfold unw at w2; unfold AV.noLoc at w3; unfold isOpt at w4; simp only [AV.cellsB, Value.oneCell'] at w5
      refine hK1 _ ?_; clear hK1 K1
      (repeat (first | refine gO (by decide) ?_ | ((first | refine gM (mdL [(4, 1), (5, 2), (7, 1), (8, 1)]) ?_ | (with_reducible refine wM ?_ ?_) | ((with_reducible refine xR ?_); refine uE 17 (mdL [(4, 1), (5, 2), (7, 1), (8, 1)]) pSLoop_8_17E pSLoop_8_17P 83 rfl (by kernel_rfl) ?_)) <;> ((try with_reducible intro K1 hK1); simp only [go_sem, ↓reduceIte, reduceCtorEq, nA, nB, nC, nD, nE, nF, w1, w2, w3, w4, w5] <;> and_intros <;> first | (apply hK1; clear hK1 K1) | (intros; first | omega | decide | (simp_all <;> omega)) | skip))))
      refine (g_next i l a2 7 ⟨upd h.H o (some (.cells cs)), T1⟩ hl (by omega) (by omega)).mono ?_; rintro _ _ ⟨x, hx, rfl, rfl⟩; apply hK1; clear hK1 K1
      obtain ⟨k, it, lo, mn, K, Sh, rfl⟩ : ∃ k it lo mn K Sh, cs2 = [k, it, lo, mn, K, Sh] := by
        cases e with
        | zero => exact hcs2.elim
        | succ e => obtain ⟨_, _, _, _, _, _, rfl, _⟩ := id hcs2; exact ⟨_, _, _, _, _, _, rfl⟩
      have hH : [k, it, lo, mn, K, Sh] = cs → ∀ b, (Hp.st ⟨upd h.H o (some (.cells cs)), T1⟩ i l b).H o = some (.cells [k, it, lo, mn, K, Sh]) := fun he b => by rw [he]; simp only [Hp.st, upd_other _ _ hio, upd_same]
      have hO : [k, it, lo, mn, K, Sh] = cs → OLd true T1 (fun k => h.T k = none) (d + 1) [k, it, lo, mn, K, Sh] := fun he => by rw [he]; exact hcs
      replace hcs2 : OLd true T1 (fun k => h.T k = none) e [k, it, lo, mn, K, Sh] := hcs2
      have hgs : ∀ (css : List (List AV)) (j : Nat), j < css.length → ∀ c, (css.set j c).getD j [] = c := fun css j hj c => by rw [List.getD_eq_getElem?_getD, List.getElem?_set_self hj]; rfl
      (repeat (first | refine gO (by decide) ?_ | ((first | refine gM (mdL [(4, 1), (5, 2), (7, 1), (8, 1)]) ?_ | (with_reducible refine wM ?_ ?_) | ((with_reducible refine xR ?_); refine uE 17 (mdL [(4, 1), (5, 2), (7, 1), (8, 1)]) pSLoop_8_17E pSLoop_8_17P 83 rfl (by kernel_rfl) ?_)) <;> ((try with_reducible intro K1 hK1); simp only [go_sem, ↓reduceIte, reduceCtorEq, nA, nB, nC, nD, nE, nF] <;> and_intros <;> first | (apply hK1; clear hK1 K1) | (intros; first | omega | decide | (simp_all <;> omega)) | skip))))
      refine awp_cond (t := _) rfl (fun h5 => ?_) (fun h5 => ?_)
      · rcases hp with ⟨rfl, he⟩ | ⟨q, css, j, hq, hTq, hj, rfl, hg⟩
        · have hH := hH he
          (repeat (first | refine gO (by decide) ?_ | ((first | refine gM (mdL [(4, 1), (5, 2), (7, 1), (8, 1)]) ?_ | (with_reducible refine wM ?_ ?_) | ((with_reducible refine xR ?_); refine uE 17 (mdL [(4, 1), (5, 2), (7, 1), (8, 1)]) pSLoop_8_17E pSLoop_8_17P 83 rfl (by kernel_rfl) ?_)) <;> ((try with_reducible intro K1 hK1); simp only [go_sem, ↓reduceIte, reduceCtorEq, nA, nB, nC, nD, nE, nF, hH] <;> and_intros <;> first | (apply hK1; clear hK1 K1) | (intros; first | omega | decide | (simp_all <;> omega)) | skip))))
          refine (g_odd i l (a2 + 1) 1 5 ⟨upd h.H o (some (.cells cs)), T1⟩ hl (by omega) (by omega) (by omega) (by omega)).mono ?_; rintro _ _ ⟨y, a3, hy, ha3, rfl, rfl⟩; apply hK1; clear hK1 K1
          (repeat (first | refine gO (by decide) ?_ | ((first | refine gM (mdL [(4, 1), (5, 2), (7, 1), (8, 1)]) ?_ | (with_reducible refine wM ?_ ?_) | ((with_reducible refine xR ?_); refine uE 17 (mdL [(4, 1), (5, 2), (7, 1), (8, 1)]) pSLoop_8_17E pSLoop_8_17P 83 rfl (by kernel_rfl) ?_)) <;> ((try with_reducible intro K1 hK1); simp only [go_sem, ↓reduceIte, reduceCtorEq, nA, nB, nC, nD, nE, nF, hH] <;> and_intros <;> first | (apply hK1; clear hK1 K1) | (intros; first | omega | decide | (simp_all <;> omega)) | skip))))
          exact ⟨_, T1, a3, ((hO he).kind hy).weaken.up (by omega), hT1, by omega, st_mk3 rfl rfl (st_obj2 hio _ _ _ _ _ _)⟩
        · replace hTq : T1 q = some (.cont 6 css) := hTq
          have hgs := hgs css j hj
          (repeat (first | refine gO (by decide) ?_ | ((first | refine gM (mdL [(4, 1), (5, 2), (7, 1), (8, 1)]) ?_ | (with_reducible refine wM ?_ ?_) | ((with_reducible refine xR ?_); refine uE 17 (mdL [(4, 1), (5, 2), (7, 1), (8, 1)]) pSLoop_8_17E pSLoop_8_17P 83 rfl (by kernel_rfl) ?_)) <;> ((try with_reducible intro K1 hK1); simp only [go_sem, ↓reduceIte, reduceCtorEq, nA, nB, nC, nD, nE, nF, hTq, st_T, hg, hgs] <;> and_intros <;> first | (apply hK1; clear hK1 K1) | (intros; first | omega | decide | (simp_all <;> omega)) | skip))))
          refine (g_odd i l (a2 + 1) 1 5 ⟨upd h.H o (some (.cells cs)), T1⟩ hl (by omega) (by omega) (by omega) (by omega)).mono ?_; rintro _ _ ⟨y, a3, hy, ha3, rfl, rfl⟩; apply hK1; clear hK1 K1
          (repeat (first | refine gO (by decide) ?_ | ((first | refine gM (mdL [(4, 1), (5, 2), (7, 1), (8, 1)]) ?_ | (with_reducible refine wM ?_ ?_) | ((with_reducible refine xR ?_); refine uE 17 (mdL [(4, 1), (5, 2), (7, 1), (8, 1)]) pSLoop_8_17E pSLoop_8_17P 83 rfl (by kernel_rfl) ?_)) <;> ((try with_reducible intro K1 hK1); simp only [go_sem, ↓reduceIte, reduceCtorEq, nA, nB, nC, nD, nE, nF, hTq, st_T, hg, hgs] <;> and_intros <;> first | (apply hK1; clear hK1 K1) | (intros; first | omega | decide | (simp_all <;> omega)) | skip))))
          have hw : ∀ c', (∀ e, ∀ T' : Nat → Option TO, OLd false T' (fun k => h.T k = none) e [k, it, lo, mn, K, Sh] → OLd false T' (fun k => h.T k = none) e c') → OLd false (upd T1 q (some (.cont 6 (css.set j c')))) (fun k => h.T k = none) (d + 20) cs := fun c' hc => ((hcs.weaken.up (e := d + 20) (by omega)).write hTq (upd_same _ _ _) (fun k _ hk => upd_other _ _ hk) (fun e h' => by rw [hg] at h'; exact hc e _ h'))
          exact ⟨cs, _, a3, hw _ fun e T' h' => h'.kind hy, fun k hk => (upd_other _ _ (fun e => by subst e; exact hk hq)).trans (hT1 k hk), by omega, rfl⟩
      · clear h5
        (repeat (first | refine gO (by decide) ?_ | ((first | refine gM (mdL [(4, 1), (5, 2), (7, 1), (8, 1)]) ?_ | (with_reducible refine wM ?_ ?_) | ((with_reducible refine xR ?_); refine uE 17 (mdL [(4, 1), (5, 2), (7, 1), (8, 1)]) pSLoop_8_17E pSLoop_8_17P 83 rfl (by kernel_rfl) ?_)) <;> ((try with_reducible intro K1 hK1); simp only [go_sem, ↓reduceIte, reduceCtorEq, nA, nB, nC, nD, nE, nF] <;> and_intros <;> first | (apply hK1; clear hK1 K1) | (intros; first | omega | decide | (simp_all <;> omega)) | skip))))
        refine awp_cond (t := _) rfl (fun h5 => ?_) (fun h5 => ?_)
        ·
          rcases hp with ⟨rfl, he⟩ | ⟨q, css, j, hq, hTq, hj, rfl, hg⟩
          · have hH := hH he
            (repeat (first | refine gO (by decide) ?_ | ((first | refine gM (mdL [(4, 1), (5, 2), (7, 1), (8, 1)]) ?_ | (with_reducible refine wM ?_ ?_) | ((with_reducible refine xR ?_); refine uE 17 (mdL [(4, 1), (5, 2), (7, 1), (8, 1)]) pSLoop_8_17E pSLoop_8_17P 83 rfl (by kernel_rfl) ?_)) <;> ((try with_reducible intro K1 hK1); simp only [go_sem, ↓reduceIte, reduceCtorEq, nA, nB, nC, nD, nE, nF, hH] <;> and_intros <;> first | (apply hK1; clear hK1 K1) | (intros; first | omega | decide | (simp_all <;> omega)) | skip))))
            refine (g_some i l (a2 + 1) [⟨#[]⟩, ⟨#[65]⟩, ⟨#[105, 97]⟩] none ⟨upd h.H o (some (.cells cs)), T1⟩ hl (by omega) (by simp)).mono ?_; rintro _ _ ⟨x1, hx1, rfl, rfl⟩; apply hK1; clear hK1 K1
            (repeat (first | refine gO (by decide) ?_ | ((first | refine gM (mdL [(4, 1), (5, 2), (7, 1), (8, 1)]) ?_ | (with_reducible refine wM ?_ ?_) | ((with_reducible refine xR ?_); refine uE 17 (mdL [(4, 1), (5, 2), (7, 1), (8, 1)]) pSLoop_8_17E pSLoop_8_17P 83 rfl (by kernel_rfl) ?_)) <;> ((try with_reducible intro K1 hK1); simp only [go_sem, ↓reduceIte, reduceCtorEq, nA, nB, nC, nD, nE, nF, hH] <;> and_intros <;> first | (apply hK1; clear hK1 K1) | (intros; first | omega | decide | (simp_all <;> omega)) | skip))))
            refine (g_odd i l (a2 + 1 + 1) 1 3600000 ⟨upd h.H o (some (.cells cs)), T1⟩ hl (by omega) (by omega) (by omega) (by omega)).mono ?_; rintro _ _ ⟨y, a3, hy, ha3, rfl, rfl⟩; apply hK1; clear hK1 K1
            (repeat (first | refine gO (by decide) ?_ | ((first | refine gM (mdL [(4, 1), (5, 2), (7, 1), (8, 1)]) ?_ | (with_reducible refine wM ?_ ?_) | ((with_reducible refine xR ?_); refine uE 17 (mdL [(4, 1), (5, 2), (7, 1), (8, 1)]) pSLoop_8_17E pSLoop_8_17P 83 rfl (by kernel_rfl) ?_)) <;> ((try with_reducible intro K1 hK1); simp only [go_sem, ↓reduceIte, reduceCtorEq, nA, nB, nC, nD, nE, nF, hH] <;> and_intros <;> first | (apply hK1; clear hK1 K1) | (intros; first | omega | decide | (simp_all <;> omega)) | skip))))
            exact ⟨_, T1, a3, ((hO he).il (by simp at hx1; rcases hx1 with rfl | rfl | rfl <;> decide) hy).weaken.up (by omega), hT1, by omega, st_mk3 rfl rfl (st_obj2 hio _ _ _ _ _ _)⟩
          · replace hTq : T1 q = some (.cont 6 css) := hTq
            have hgs := hgs css j hj
            have hw : ∀ c', (∀ e, ∀ T' : Nat → Option TO, OLd false T' (fun k => h.T k = none) e [k, it, lo, mn, K, Sh] → OLd false T' (fun k => h.T k = none) e c') → OLd false (upd T1 q (some (.cont 6 (css.set j c')))) (fun k => h.T k = none) (d + 20) cs := fun c' hc => ((hcs.weaken.up (e := d + 20) (by omega)).write hTq (upd_same _ _ _) (fun k _ hk => upd_other _ _ hk) (fun e h' => by rw [hg] at h'; exact hc e _ h'))
            (repeat (first | refine gO (by decide) ?_ | ((first | refine gM (mdL [(4, 1), (5, 2), (7, 1), (8, 1)]) ?_ | (with_reducible refine wM ?_ ?_) | ((with_reducible refine xR ?_); refine uE 17 (mdL [(4, 1), (5, 2), (7, 1), (8, 1)]) pSLoop_8_17E pSLoop_8_17P 83 rfl (by kernel_rfl) ?_)) <;> ((try with_reducible intro K1 hK1); simp only [go_sem, ↓reduceIte, reduceCtorEq, nA, nB, nC, nD, nE, nF, hTq, st_T, hg, hgs, List.set_set] <;> and_intros <;> first | (apply hK1; clear hK1 K1) | (intros; first | omega | decide | (simp_all <;> omega)) | skip))))
            refine (g_some i l (a2 + 1) [⟨#[]⟩, ⟨#[65]⟩, ⟨#[105, 97]⟩] none ⟨upd h.H o (some (.cells cs)), T1⟩ hl (by omega) (by simp)).mono ?_; rintro _ _ ⟨x1, hx1, rfl, rfl⟩; apply hK1; clear hK1 K1
            (repeat (first | refine gO (by decide) ?_ | ((first | refine gM (mdL [(4, 1), (5, 2), (7, 1), (8, 1)]) ?_ | (with_reducible refine wM ?_ ?_) | ((with_reducible refine xR ?_); refine uE 17 (mdL [(4, 1), (5, 2), (7, 1), (8, 1)]) pSLoop_8_17E pSLoop_8_17P 83 rfl (by kernel_rfl) ?_)) <;> ((try with_reducible intro K1 hK1); simp only [go_sem, ↓reduceIte, reduceCtorEq, nA, nB, nC, nD, nE, nF, hTq, st_T, hg, hgs, List.set_set] <;> and_intros <;> first | (apply hK1; clear hK1 K1) | (intros; first | omega | decide | (simp_all <;> omega)) | skip))))
            refine (g_odd i l (a2 + 1 + 1) 1 3600000 ⟨upd h.H o (some (.cells cs)), T1⟩ hl (by omega) (by omega) (by omega) (by omega)).mono ?_; rintro _ _ ⟨y, a3, hy, ha3, rfl, rfl⟩; apply hK1; clear hK1 K1
            (repeat (first | refine gO (by decide) ?_ | ((first | refine gM (mdL [(4, 1), (5, 2), (7, 1), (8, 1)]) ?_ | (with_reducible refine wM ?_ ?_) | ((with_reducible refine xR ?_); refine uE 17 (mdL [(4, 1), (5, 2), (7, 1), (8, 1)]) pSLoop_8_17E pSLoop_8_17P 83 rfl (by kernel_rfl) ?_)) <;> ((try with_reducible intro K1 hK1); simp only [go_sem, ↓reduceIte, reduceCtorEq, nA, nB, nC, nD, nE, nF, hTq, st_T, hg, hgs, List.set_set] <;> and_intros <;> first | (apply hK1; clear hK1 K1) | (intros; first | omega | decide | (simp_all <;> omega)) | skip))))
            exact ⟨cs, _, a3, hw _ fun e T' h' => h'.il (by simp at hx1; rcases hx1 with rfl | rfl | rfl <;> decide) hy, fun k hk => (upd_other _ _ (fun e => by subst e; exact hk hq)).trans (hT1 k hk), by omega, rfl⟩
        · clear h5
          (repeat (first | refine gO (by decide) ?_ | ((first | refine gM (mdL [(4, 1), (5, 2), (7, 1), (8, 1)]) ?_ | (with_reducible refine wM ?_ ?_) | ((with_reducible refine xR ?_); refine uE 17 (mdL [(4, 1), (5, 2), (7, 1), (8, 1)]) pSLoop_8_17E pSLoop_8_17P 83 rfl (by kernel_rfl) ?_)) <;> ((try with_reducible intro K1 hK1); simp only [go_sem, ↓reduceIte, reduceCtorEq, nA, nB, nC, nD, nE, nF] <;> and_intros <;> first | (apply hK1; clear hK1 K1) | (intros; first | omega | decide | (simp_all <;> omega)) | skip))))
          refine awp_cond (t := _) rfl (fun h5 => ?_) (fun h5 => ?_)
          ·
            rcases hp with ⟨rfl, he⟩ | ⟨q, css, j, hq, hTq, hj, rfl, hg⟩
            · have hH := hH he
              (repeat (first | refine gO (by decide) ?_ | ((first | refine gM (mdL [(4, 1), (5, 2), (7, 1), (8, 1)]) ?_ | (with_reducible refine wM ?_ ?_) | ((with_reducible refine xR ?_); refine uE 17 (mdL [(4, 1), (5, 2), (7, 1), (8, 1)]) pSLoop_8_17E pSLoop_8_17P 83 rfl (by kernel_rfl) ?_)) <;> ((try with_reducible intro K1 hK1); simp only [go_sem, ↓reduceIte, reduceCtorEq, nA, nB, nC, nD, nE, nF, hH] <;> and_intros <;> first | (apply hK1; clear hK1 K1) | (intros; first | omega | decide | (simp_all <;> omega)) | skip))))
              refine (g_pick i l (a2 + 1) [0, 1, 100, 101] none ⟨upd h.H o (some (.cells cs)), T1⟩ hl (by omega) (by simp)).mono ?_; rintro _ _ ⟨y, hy, rfl, rfl⟩; apply hK1; clear hK1 K1
              (repeat (first | refine gO (by decide) ?_ | ((first | refine gM (mdL [(4, 1), (5, 2), (7, 1), (8, 1)]) ?_ | (with_reducible refine wM ?_ ?_) | ((with_reducible refine xR ?_); refine uE 17 (mdL [(4, 1), (5, 2), (7, 1), (8, 1)]) pSLoop_8_17E pSLoop_8_17P 83 rfl (by kernel_rfl) ?_)) <;> ((try with_reducible intro K1 hK1); simp only [go_sem, ↓reduceIte, reduceCtorEq, nA, nB, nC, nD, nE, nF, hH] <;> and_intros <;> first | (apply hK1; clear hK1 K1) | (intros; first | omega | decide | (simp_all <;> omega)) | skip))))
              exact ⟨_, T1, a2 + 1 + 1, ((hO he).many (by simp at hy; unfold NB; omega)).weaken.up (by omega), hT1, by omega, st_mk3 rfl rfl (st_obj2 hio _ _ _ _ _ _)⟩
            · replace hTq : T1 q = some (.cont 6 css) := hTq
              have hgs := hgs css j hj
              have hw : ∀ c', (∀ e, ∀ T' : Nat → Option TO, OLd false T' (fun k => h.T k = none) e [k, it, lo, mn, K, Sh] → OLd false T' (fun k => h.T k = none) e c') → OLd false (upd T1 q (some (.cont 6 (css.set j c')))) (fun k => h.T k = none) (d + 20) cs := fun c' hc => ((hcs.weaken.up (e := d + 20) (by omega)).write hTq (upd_same _ _ _) (fun k _ hk => upd_other _ _ hk) (fun e h' => by rw [hg] at h'; exact hc e _ h'))
              (repeat (first | refine gO (by decide) ?_ | ((first | refine gM (mdL [(4, 1), (5, 2), (7, 1), (8, 1)]) ?_ | (with_reducible refine wM ?_ ?_) | ((with_reducible refine xR ?_); refine uE 17 (mdL [(4, 1), (5, 2), (7, 1), (8, 1)]) pSLoop_8_17E pSLoop_8_17P 83 rfl (by kernel_rfl) ?_)) <;> ((try with_reducible intro K1 hK1); simp only [go_sem, ↓reduceIte, reduceCtorEq, nA, nB, nC, nD, nE, nF, hTq, st_T, hg, hgs, List.set_set] <;> and_intros <;> first | (apply hK1; clear hK1 K1) | (intros; first | omega | decide | (simp_all <;> omega)) | skip))))
              refine (g_pick i l (a2 + 1) [0, 1, 100, 101] none ⟨upd h.H o (some (.cells cs)), T1⟩ hl (by omega) (by simp)).mono ?_; rintro _ _ ⟨y, hy, rfl, rfl⟩; apply hK1; clear hK1 K1
              (repeat (first | refine gO (by decide) ?_ | ((first | refine gM (mdL [(4, 1), (5, 2), (7, 1), (8, 1)]) ?_ | (with_reducible refine wM ?_ ?_) | ((with_reducible refine xR ?_); refine uE 17 (mdL [(4, 1), (5, 2), (7, 1), (8, 1)]) pSLoop_8_17E pSLoop_8_17P 83 rfl (by kernel_rfl) ?_)) <;> ((try with_reducible intro K1 hK1); simp only [go_sem, ↓reduceIte, reduceCtorEq, nA, nB, nC, nD, nE, nF, hTq, st_T, hg, hgs, List.set_set] <;> and_intros <;> first | (apply hK1; clear hK1 K1) | (intros; first | omega | decide | (simp_all <;> omega)) | skip))))
              exact ⟨cs, _, a2 + 1 + 1, hw _ fun e T' h' => h'.many (by simp at hy; unfold NB; omega), fun k hk => (upd_other _ _ (fun e => by subst e; exact hk hq)).trans (hT1 k hk), by omega, rfl⟩
          · clear h5
            (repeat (first | refine gO (by decide) ?_ | ((first | refine gM (mdL [(4, 1), (5, 2), (7, 1), (8, 1)]) ?_ | (with_reducible refine wM ?_ ?_) | ((with_reducible refine xR ?_); refine uE 17 (mdL [(4, 1), (5, 2), (7, 1), (8, 1)]) pSLoop_8_17E pSLoop_8_17P 83 rfl (by kernel_rfl) ?_)) <;> ((try with_reducible intro K1 hK1); simp only [go_sem, ↓reduceIte, reduceCtorEq, nA, nB, nC, nD, nE, nF] <;> and_intros <;> first | (apply hK1; clear hK1 K1) | (intros; first | omega | decide | (simp_all <;> omega)) | skip))))
            refine awp_cond (t := _) rfl (fun h5 => ?_) (fun h5 => ?_)
            ·
              have hSh : Sh = .v (.slice none 0 0) ∨ ∃ (xs : List Int) (q2 : Nat), Sh = .row 1 (xs.map encI) (some q2) ∧ xs.length ≤ 4 ∧ (∀ x ∈ xs, NB x) ∧ T1 q2 = some (.tail xs.length) ∧ h.T q2 = none := by
                cases e with
                | zero => exact hcs2.elim
                | succ e =>
                  obtain ⟨_, _, _, _, _, _, he, _, _, h5⟩ := id hcs2
                  cases he
                  rcases h5 with h5 | ⟨xs, q2, h5, _, h6, h7⟩
                  · exact .inl h5
                  · exact .inr ⟨xs, q2, h5, (h7 rfl).2.2, h6, (h7 rfl).2.1, (h7 rfl).1⟩
              have hny : ∀ y : Int, y ∈ ([1, 0] : List Int) → NB y := fun y hy => by simp at hy; unfold NB; omega
              have hkb : ∀ (q2 n : Nat), (∀ x, T1 q2 ≠ some (.cont 6 x)) → ∀ (d' : Nat) (c' : List AV), OLd true T1 (fun k => h.T k = none) d' c' → OLd false (upd T1 q2 (some (.tail n))) (fun k => h.T k = none) d' c' := fun q2 n hq2 d' c' h' => h'.weaken.keep (fun k _ ⟨x, hx⟩ => upd_other _ _ (fun e => by subst e; exact hq2 x hx)) (fun h => by cases h)
              rcases hp with ⟨rfl, he⟩ | ⟨q, css, j, hq, hTq, hj, rfl, hg⟩
              · have hH := hH he
                have hO := hO he
                rcases hSh with rfl | ⟨xs, q2, rfl, hxl, hxb, hTq2, hSq2⟩
                · (repeat (first | refine gO (by decide) ?_ | ((first | refine gM (mdL [(4, 1), (5, 2), (7, 1), (8, 1)]) ?_ | (with_reducible refine wM ?_ ?_) | ((with_reducible refine xR ?_); refine uE 17 (mdL [(4, 1), (5, 2), (7, 1), (8, 1)]) pSLoop_8_17E pSLoop_8_17P 83 rfl (by kernel_rfl) ?_)) <;> ((try with_reducible intro K1 hK1); simp only [go_sem, ↓reduceIte, reduceCtorEq, nA, nB, nC, nD, nE, nF, hH, st_T, encI] <;> and_intros <;> first | (apply hK1; clear hK1 K1) | (intros; first | omega | decide | (simp_all <;> omega)) | skip))))
                  refine (g_pick i l (a2 + 1) [1, 0] none ⟨upd h.H o (some (.cells cs)), T1⟩ hl (by omega) (by simp)).mono ?_; rintro _ _ ⟨y, hy, rfl, rfl⟩; apply hK1; clear hK1 K1
                  (repeat (first | refine gO (by decide) ?_ | ((first | refine gM (mdL [(4, 1), (5, 2), (7, 1), (8, 1)]) ?_ | (with_reducible refine wM ?_ ?_) | ((with_reducible refine xR ?_); refine uE 17 (mdL [(4, 1), (5, 2), (7, 1), (8, 1)]) pSLoop_8_17E pSLoop_8_17P 83 rfl (by kernel_rfl) ?_)) <;> ((try with_reducible intro K1 hK1); simp only [go_sem, ↓reduceIte, reduceCtorEq, nA, nB, nC, nD, nE, nF, hH, st_T, encI] <;> and_intros <;> first | (apply hK1; clear hK1 K1) | (intros; first | omega | decide | (simp_all <;> omega)) | skip))))
                  intro q2 hq2
                  refine hK1 _ ?_; clear hK1 K1
                  (repeat (first | refine gO (by decide) ?_ | ((first | refine gM (mdL [(4, 1), (5, 2), (7, 1), (8, 1)]) ?_ | (with_reducible refine wM ?_ ?_) | ((with_reducible refine xR ?_); refine uE 17 (mdL [(4, 1), (5, 2), (7, 1), (8, 1)]) pSLoop_8_17E pSLoop_8_17P 83 rfl (by kernel_rfl) ?_)) <;> ((try with_reducible intro K1 hK1); simp only [go_sem, ↓reduceIte, reduceCtorEq, nA, nB, nC, nD, nE, nF, hH, st_T, encI] <;> and_intros <;> first | (apply hK1; clear hK1 K1) | (intros; first | omega | decide | (simp_all <;> omega)) | skip))))
                  have hq2' : h.T q2 = none := Classical.byContradiction fun hn => by have := hT1 q2 hn; rw [show T1 q2 = none from hq2] at this; exact hn this.symm
                  exact ⟨_, upd T1 q2 (some (.tail 1)), a2 + 1 + 1, ((hkb q2 1 (fun x hx => by rw [show T1 q2 = none from hq2] at hx; cases hx) _ _ hO).share (xs := [y]) (q := q2) (by simp) (fun z hz => by simp at hz; subst hz; exact hny _ hy)).up (by omega), fun k hk => (upd_other _ _ (fun e => by subst e; exact hk hq2')).trans (hT1 k hk), by omega, st_mk3 rfl rfl (st_obj2 hio _ _ _ _ _ _)⟩
                · (repeat (first | refine gO (by decide) ?_ | ((first | refine gM (mdL [(4, 1), (5, 2), (7, 1), (8, 1)]) ?_ | (with_reducible refine wM ?_ ?_) | ((with_reducible refine xR ?_); refine uE 17 (mdL [(4, 1), (5, 2), (7, 1), (8, 1)]) pSLoop_8_17E pSLoop_8_17P 83 rfl (by kernel_rfl) ?_)) <;> ((try with_reducible intro K1 hK1); simp only [go_sem, ↓reduceIte, reduceCtorEq, nA, nB, nC, nD, nE, nF, hH, st_T, hTq2] <;> and_intros <;> first | (apply hK1; clear hK1 K1) | (intros; first | omega | decide | (simp_all <;> omega)) | skip))))
                  refine (g_pick i l (a2 + 1) [1, 0] none ⟨upd h.H o (some (.cells cs)), T1⟩ hl (by omega) (by simp)).mono ?_; rintro _ _ ⟨y, hy, rfl, rfl⟩; apply hK1; clear hK1 K1
                  (repeat (first | refine gO (by decide) ?_ | ((first | refine gM (mdL [(4, 1), (5, 2), (7, 1), (8, 1)]) ?_ | (with_reducible refine wM ?_ ?_) | ((with_reducible refine xR ?_); refine uE 17 (mdL [(4, 1), (5, 2), (7, 1), (8, 1)]) pSLoop_8_17E pSLoop_8_17P 83 rfl (by kernel_rfl) ?_)) <;> ((try with_reducible intro K1 hK1); simp only [go_sem, ↓reduceIte, reduceCtorEq, nA, nB, nC, nD, nE, nF, hH, st_T, hTq2] <;> and_intros <;> first | (apply hK1; clear hK1 K1) | (intros; first | omega | decide | (simp_all <;> omega)) | skip))))
                  have hme : xs.map encI ++ [[AV.v (.int .i64 y)]] = (xs ++ [y]).map encI := by simp [encI]
                  rw [hme]
                  exact ⟨_, upd T1 q2 (some (.tail (xs.length + 1))), a2 + 1 + 1, ((hkb q2 (xs.length + 1) (fun x hx => by rw [hTq2] at hx; cases hx) _ _ hO).share (xs := xs ++ [y]) (q := q2) (by simp; omega) (fun z hz => by rcases List.mem_append.1 hz with hz | hz; exact hxb z hz; simp at hz; subst hz; exact hny _ hy)).up (by omega), fun k hk => (upd_other _ _ (fun e => by subst e; exact hk hSq2)).trans (hT1 k hk), by omega, st_mk3 rfl rfl (st_obj2 hio _ _ _ _ _ _)⟩
              · replace hTq : T1 q = some (.cont 6 css) := hTq
                have hgs := hgs css j hj
                rcases hSh with rfl | ⟨xs, q2, rfl, hxl, hxb, hTq2, hSq2⟩
                · (repeat (first | refine gO (by decide) ?_ | ((first | refine gM (mdL [(4, 1), (5, 2), (7, 1), (8, 1)]) ?_ | (with_reducible refine wM ?_ ?_) | ((with_reducible refine xR ?_); refine uE 17 (mdL [(4, 1), (5, 2), (7, 1), (8, 1)]) pSLoop_8_17E pSLoop_8_17P 83 rfl (by kernel_rfl) ?_)) <;> ((try with_reducible intro K1 hK1); simp only [go_sem, ↓reduceIte, reduceCtorEq, nA, nB, nC, nD, nE, nF, hTq, st_T, hg, hgs, encI] <;> and_intros <;> first | (apply hK1; clear hK1 K1) | (intros; first | omega | decide | (simp_all <;> omega)) | skip))))
                  refine (g_pick i l (a2 + 1) [1, 0] none ⟨upd h.H o (some (.cells cs)), T1⟩ hl (by omega) (by simp)).mono ?_; rintro _ _ ⟨y, hy, rfl, rfl⟩; apply hK1; clear hK1 K1
                  (repeat (first | refine gO (by decide) ?_ | ((first | refine gM (mdL [(4, 1), (5, 2), (7, 1), (8, 1)]) ?_ | (with_reducible refine wM ?_ ?_) | ((with_reducible refine xR ?_); refine uE 17 (mdL [(4, 1), (5, 2), (7, 1), (8, 1)]) pSLoop_8_17E pSLoop_8_17P 83 rfl (by kernel_rfl) ?_)) <;> ((try with_reducible intro K1 hK1); simp only [go_sem, ↓reduceIte, reduceCtorEq, nA, nB, nC, nD, nE, nF, hTq, st_T, hg, hgs, encI] <;> and_intros <;> first | (apply hK1; clear hK1 K1) | (intros; first | omega | decide | (simp_all <;> omega)) | skip))))
                  intro q2 hq2
                  refine hK1 _ ?_; clear hK1 K1
                  replace hq2 : T1 q2 = none := hq2
                  have hqq : q ≠ q2 := fun e => by subst e; rw [hTq] at hq2; cases hq2
                  have hTa : ∀ x, upd T1 q2 x q = some (.cont 6 css) := fun x => (upd_other _ _ hqq).trans hTq
                  (repeat (first | refine gO (by decide) ?_ | ((first | refine gM (mdL [(4, 1), (5, 2), (7, 1), (8, 1)]) ?_ | (with_reducible refine wM ?_ ?_) | ((with_reducible refine xR ?_); refine uE 17 (mdL [(4, 1), (5, 2), (7, 1), (8, 1)]) pSLoop_8_17E pSLoop_8_17P 83 rfl (by kernel_rfl) ?_)) <;> ((try with_reducible intro K1 hK1); simp only [go_sem, ↓reduceIte, reduceCtorEq, nA, nB, nC, nD, nE, nF, hTa, st_T, hg, hgs, encI] <;> and_intros <;> first | (apply hK1; clear hK1 K1) | (intros; first | omega | decide | (simp_all <;> omega)) | skip))))
                  have hq2' : h.T q2 = none := Classical.byContradiction fun hn => by have := hT1 q2 hn; rw [hq2] at this; exact hn this.symm
                  have hw : ∀ c', (∀ e, ∀ T' : Nat → Option TO, OLd false T' (fun k => h.T k = none) e [k, it, lo, mn, K, AV.v (.slice none 0 0)] → OLd false T' (fun k => h.T k = none) e c') → OLd false (upd (upd T1 q2 (some (.tail 1))) q (some (.cont 6 (css.set j c')))) (fun k => h.T k = none) (d + 20) cs := fun c' hc => (((hkb q2 1 (fun x hx => by rw [hq2] at hx; cases hx) _ _ hcs).up (e := d + 20) (by omega)).write (hTa _) (upd_same _ _ _) (fun k _ hk => upd_other _ _ hk) (fun e h' => by rw [hg] at h'; exact hc e _ h'))
                  exact ⟨cs, _, a2 + 1 + 1, hw _ fun e T' h' => h'.share (xs := [y]) (q := q2) (by simp) (fun z hz => by simp at hz; subst hz; exact hny _ hy), fun k hk => ((upd_other _ _ (fun e => by subst e; exact hk hq)).trans (upd_other _ _ (fun e => by subst e; exact hk hq2'))).trans (hT1 k hk), by omega, rfl⟩
                · have hqq : q ≠ q2 := fun e => by subst e; rw [hTq] at hTq2; cases hTq2
                  have hTa : ∀ x, upd T1 q2 x q = some (.cont 6 css) := fun x => (upd_other _ _ hqq).trans hTq
                  (repeat (first | refine gO (by decide) ?_ | ((first | refine gM (mdL [(4, 1), (5, 2), (7, 1), (8, 1)]) ?_ | (with_reducible refine wM ?_ ?_) | ((with_reducible refine xR ?_); refine uE 17 (mdL [(4, 1), (5, 2), (7, 1), (8, 1)]) pSLoop_8_17E pSLoop_8_17P 83 rfl (by kernel_rfl) ?_)) <;> ((try with_reducible intro K1 hK1); simp only [go_sem, ↓reduceIte, reduceCtorEq, nA, nB, nC, nD, nE, nF, hTq, hTa, st_T, hg, hgs, hTq2] <;> and_intros <;> first | (apply hK1; clear hK1 K1) | (intros; first | omega | decide | (simp_all <;> omega)) | skip))))
                  refine (g_pick i l (a2 + 1) [1, 0] none ⟨upd h.H o (some (.cells cs)), T1⟩ hl (by omega) (by simp)).mono ?_; rintro _ _ ⟨y, hy, rfl, rfl⟩; apply hK1; clear hK1 K1
                  (repeat (first | refine gO (by decide) ?_ | ((first | refine gM (mdL [(4, 1), (5, 2), (7, 1), (8, 1)]) ?_ | (with_reducible refine wM ?_ ?_) | ((with_reducible refine xR ?_); refine uE 17 (mdL [(4, 1), (5, 2), (7, 1), (8, 1)]) pSLoop_8_17E pSLoop_8_17P 83 rfl (by kernel_rfl) ?_)) <;> ((try with_reducible intro K1 hK1); simp only [go_sem, ↓reduceIte, reduceCtorEq, nA, nB, nC, nD, nE, nF, hTq, hTa, st_T, hg, hgs, hTq2] <;> and_intros <;> first | (apply hK1; clear hK1 K1) | (intros; first | omega | decide | (simp_all <;> omega)) | skip))))
                  have hw : ∀ c', (∀ e, ∀ T' : Nat → Option TO, OLd false T' (fun k => h.T k = none) e [k, it, lo, mn, K, AV.row 1 (xs.map encI) (some q2)] → OLd false T' (fun k => h.T k = none) e c') → OLd false (upd (upd T1 q2 (some (.tail (xs.length + 1)))) q (some (.cont 6 (css.set j c')))) (fun k => h.T k = none) (d + 20) cs := fun c' hc => (((hkb q2 (xs.length + 1) (fun x hx => by rw [hTq2] at hx; cases hx) _ _ hcs).up (e := d + 20) (by omega)).write (hTa _) (upd_same _ _ _) (fun k _ hk => upd_other _ _ hk) (fun e h' => by rw [hg] at h'; exact hc e _ h'))
                  have hme : xs.map encI ++ [[AV.v (.int .i64 y)]] = (xs ++ [y]).map encI := by simp [encI]
                  rw [hme]
                  exact ⟨cs, _, a2 + 1 + 1, hw _ fun e T' h' => h'.share (xs := xs ++ [y]) (q := q2) (by simp; omega) (fun z hz => by rcases List.mem_append.1 hz with hz | hz; exact hxb z hz; simp at hz; subst hz; exact hny _ hy), fun k hk => ((upd_other _ _ (fun e => by subst e; exact hk hq)).trans (upd_other _ _ (fun e => by subst e; exact hk hSq2))).trans (hT1 k hk), by omega, rfl⟩
            · clear h5
              (repeat (first | refine gO (by decide) ?_ | ((first | refine gM (mdL [(4, 1), (5, 2), (7, 1), (8, 1)]) ?_ | (with_reducible refine wM ?_ ?_) | ((with_reducible refine xR ?_); refine uE 17 (mdL [(4, 1), (5, 2), (7, 1), (8, 1)]) pSLoop_8_17E pSLoop_8_17P 83 rfl (by kernel_rfl) ?_)) <;> ((try with_reducible intro K1 hK1); simp only [go_sem, ↓reduceIte, reduceCtorEq, nA, nB, nC, nD, nE, nF] <;> and_intros <;> first | (apply hK1; clear hK1 K1) | (intros; first | omega | decide | (simp_all <;> omega)) | skip))))
              refine awp_cond (t := _) rfl (fun h5 => ?_) (fun h5 => ?_)
              ·
                rcases hp with ⟨rfl, he⟩ | ⟨q, css, j, hq, hTq, hj, rfl, hg⟩
                · have hH := hH he
                  (repeat (first | refine gO (by decide) ?_ | ((first | refine gM (mdL [(4, 1), (5, 2), (7, 1), (8, 1)]) ?_ | (with_reducible refine wM ?_ ?_) | ((with_reducible refine xR ?_); refine uE 17 (mdL [(4, 1), (5, 2), (7, 1), (8, 1)]) pSLoop_8_17E pSLoop_8_17P 83 rfl (by kernel_rfl) ?_)) <;> ((try with_reducible intro K1 hK1); simp only [go_sem, ↓reduceIte, reduceCtorEq, nA, nB, nC, nD, nE, nF, hH] <;> and_intros <;> first | (apply hK1; clear hK1 K1) | (intros; first | omega | decide | (simp_all <;> omega)) | skip))))
                  exact ⟨_, T1, a2 + 1, ((hO he).nokids).weaken.up (by omega), hT1, by omega, st_mk3 rfl rfl (st_obj2 hio _ _ _ _ _ _)⟩
                · replace hTq : T1 q = some (.cont 6 css) := hTq
                  have hgs := hgs css j hj
                  have hw : ∀ c', (∀ e, ∀ T' : Nat → Option TO, OLd false T' (fun k => h.T k = none) e [k, it, lo, mn, K, Sh] → OLd false T' (fun k => h.T k = none) e c') → OLd false (upd T1 q (some (.cont 6 (css.set j c')))) (fun k => h.T k = none) (d + 20) cs := fun c' hc => ((hcs.weaken.up (e := d + 20) (by omega)).write hTq (upd_same _ _ _) (fun k _ hk => upd_other _ _ hk) (fun e h' => by rw [hg] at h'; exact hc e _ h'))
                  (repeat (first | refine gO (by decide) ?_ | ((first | refine gM (mdL [(4, 1), (5, 2), (7, 1), (8, 1)]) ?_ | (with_reducible refine wM ?_ ?_) | ((with_reducible refine xR ?_); refine uE 17 (mdL [(4, 1), (5, 2), (7, 1), (8, 1)]) pSLoop_8_17E pSLoop_8_17P 83 rfl (by kernel_rfl) ?_)) <;> ((try with_reducible intro K1 hK1); simp only [go_sem, ↓reduceIte, reduceCtorEq, nA, nB, nC, nD, nE, nF, hTq, st_T, hg, hgs, List.set_set] <;> and_intros <;> first | (apply hK1; clear hK1 K1) | (intros; first | omega | decide | (simp_all <;> omega)) | skip))))
                  exact ⟨cs, _, a2 + 1, hw _ fun e T' h' => h'.nokids, fun k hk => (upd_other _ _ (fun e => by subst e; exact hk hq)).trans (hT1 k hk), by omega, rfl⟩
              · clear h5
                (repeat (first | refine gO (by decide) ?_ | ((first | refine gM (mdL [(4, 1), (5, 2), (7, 1), (8, 1)]) ?_ | (with_reducible refine wM ?_ ?_) | ((with_reducible refine xR ?_); refine uE 17 (mdL [(4, 1), (5, 2), (7, 1), (8, 1)]) pSLoop_8_17E pSLoop_8_17P 83 rfl (by kernel_rfl) ?_)) <;> ((try with_reducible intro K1 hK1); simp only [go_sem, ↓reduceIte, reduceCtorEq, nA, nB, nC, nD, nE, nF] <;> and_intros <;> first | (apply hK1; clear hK1 K1) | (intros; first | omega | decide | (simp_all <;> omega)) | skip))))
                refine awp_cond (t := _) rfl (fun h5 => ?_) (fun h5 => ?_)
                ·
                  (repeat (first | refine gO (by decide) ?_ | ((first | refine gM (mdL [(4, 1), (5, 2), (7, 1), (8, 1)]) ?_ | (with_reducible refine wM ?_ ?_) | ((with_reducible refine xR ?_); refine uE 17 (mdL [(4, 1), (5, 2), (7, 1), (8, 1)]) pSLoop_8_17E pSLoop_8_17P 83 rfl (by kernel_rfl) ?_)) <;> ((try with_reducible intro K1 hK1); simp only [go_sem, ↓reduceIte, reduceCtorEq, nA, nB, nC, nD, nE, nF] <;> and_intros <;> first | (apply hK1; clear hK1 K1) | (intros; first | omega | decide | (simp_all <;> omega)) | skip))))
                  refine awp_loopC (rl false [0, 1, 3, 2, 69, 1, 7]) 1 (fun g s => ∃ (j : Nat) (cs' : List AV), g + j = 12 ∧ OLd false T1 (fun k => h.T k = none) (d + 1 + j) cs' ∧
                    s = ⟨((.ptr i 0) :: (jnk 3 ((.loc 0 0) :: (.ptr o 0) :: (jnk 69 ((.v (.int .i64 j)) :: (jnk 7 [])))))), [[.v (.int .i64 0), .v (.string { data := #[] }), .v (.int .i64 0), .v (.int .i64 0), .v (.slice none 0 0), .v (.slice none 0 0)]], Hp.st ⟨upd h.H o (some (.cells cs')), T1⟩ i l (a2 + 1)⟩) 12 ⟨0, cs, by omega, hcs.weaken, rfl⟩ ?_
                  rintro n _ ⟨j, cs', hnj, hcs', rfl⟩
                  have hH : (Hp.st ⟨upd h.H o (some (.cells cs')), T1⟩ i l (a2 + 1)).H o = some (.cells cs') := by simp only [Hp.st, upd_other _ _ hio, upd_same]
                  have hl6 := hcs'.len
                  have htk6 : List.take 6 cs' = cs' := List.take_of_length_le (Nat.le_of_eq hl6)
                  have hdr6 : List.drop 6 cs' = [] := List.drop_of_length_le (Nat.le_of_eq hl6)
                  (repeat (first | refine gO (by decide) ?_ | ((first | refine gM (mdL [(4, 1), (5, 2), (7, 1), (8, 1)]) ?_ | (with_reducible refine wM ?_ ?_) | ((with_reducible refine xR ?_); refine uE 17 (mdL [(4, 1), (5, 2), (7, 1), (8, 1)]) pSLoop_8_17E pSLoop_8_17P 83 rfl (by kernel_rfl) ?_)) <;> ((try with_reducible intro K1 hK1); simp only [go_sem, ↓reduceIte, reduceCtorEq, nA, nB, nC, nD, nE, nF, hH, hl6, htk6, hdr6] <;> and_intros <;> first | (apply hK1; clear hK1 K1) | (intros; first | omega | decide | (simp_all <;> omega)) | skip))))
                  refine awp_cond (t := _) rfl (fun h6 => ?_) (fun h6 => ?_)
                  · simp only [decide_eq_true_eq] at h6
                    (repeat (first | refine gO (by decide) ?_ | ((first | refine gM (mdL [(4, 1), (5, 2), (7, 1), (8, 1)]) ?_ | (with_reducible refine wM ?_ ?_) | ((with_reducible refine xR ?_); refine uE 17 (mdL [(4, 1), (5, 2), (7, 1), (8, 1)]) pSLoop_8_17E pSLoop_8_17P 83 rfl (by kernel_rfl) ?_)) <;> ((try with_reducible intro K1 hK1); simp only [go_sem, ↓reduceIte, reduceCtorEq, nA, nB, nC, nD, nE, nF, hH, hl6, htk6, hdr6] <;> and_intros <;> first | (apply hK1; clear hK1 K1) | (intros; first | omega | decide | (simp_all <;> omega)) | skip))))
                    exact ⟨n - 1, by omega, j + 1, _, by omega, hcs'.wrap (by unfold NB; omega) (by unfold NB; omega), st_mk3 rfl rfl (st_obj2 hio _ _ _ _ _ _)⟩
                  · simp only [decide_eq_false_iff_not] at h6
                    (repeat (first | refine gO (by decide) ?_ | ((first | refine gM (mdL [(4, 1), (5, 2), (7, 1), (8, 1)]) ?_ | (with_reducible refine wM ?_ ?_) | ((with_reducible refine xR ?_); refine uE 17 (mdL [(4, 1), (5, 2), (7, 1), (8, 1)]) pSLoop_8_17E pSLoop_8_17P 83 rfl (by kernel_rfl) ?_)) <;> ((try with_reducible intro K1 hK1); simp only [go_sem, ↓reduceIte, reduceCtorEq, nA, nB, nC, nD, nE, nF, hH, hl6, htk6, hdr6] <;> and_intros <;> first | (apply hK1; clear hK1 K1) | (intros; first | omega | decide | (simp_all <;> omega)) | skip))))
                    exact ⟨cs', T1, a2 + 1, hcs'.up (by omega), hT1, by omega, rfl⟩
                · clear h5
                  (repeat (first | refine gO (by decide) ?_ | ((first | refine gM (mdL [(4, 1), (5, 2), (7, 1), (8, 1)]) ?_ | (with_reducible refine wM ?_ ?_) | ((with_reducible refine xR ?_); refine uE 17 (mdL [(4, 1), (5, 2), (7, 1), (8, 1)]) pSLoop_8_17E pSLoop_8_17P 83 rfl (by kernel_rfl) ?_)) <;> ((try with_reducible intro K1 hK1); simp only [go_sem, ↓reduceIte, reduceCtorEq, nA, nB, nC, nD, nE, nF] <;> and_intros <;> first | (apply hK1; clear hK1 K1) | (intros; first | omega | decide | (simp_all <;> omega)) | skip))))
                  refine awp_loopC (rl false [0, 1, 3, 2, 13, 1, 63]) 1 (fun g s => ∃ (j : Nat) (cs' : List AV), g + j = 3 ∧ OLd false T1 (fun k => h.T k = none) (d + 1 + j) cs' ∧
                    s = ⟨((.ptr i 0) :: (jnk 3 ((.loc 0 0) :: (.ptr o 0) :: (jnk 13 ((.v (.int .i64 j)) :: (jnk 63 [])))))), [[.v (.int .i64 0), .v (.string { data := #[] }), .v (.int .i64 0), .v (.int .i64 0), .v (.slice none 0 0), .v (.slice none 0 0)]], Hp.st ⟨upd h.H o (some (.cells cs')), T1⟩ i l (a2 + 1)⟩) 3 ⟨0, cs, by omega, hcs.weaken, rfl⟩ ?_
                  rintro n _ ⟨j, cs', hnj, hcs', rfl⟩
                  have hH : (Hp.st ⟨upd h.H o (some (.cells cs')), T1⟩ i l (a2 + 1)).H o = some (.cells cs') := by simp only [Hp.st, upd_other _ _ hio, upd_same]
                  have hl6 := hcs'.len
                  have htk6 : List.take 6 cs' = cs' := List.take_of_length_le (Nat.le_of_eq hl6)
                  have hdr6 : List.drop 6 cs' = [] := List.drop_of_length_le (Nat.le_of_eq hl6)
                  (repeat (first | refine gO (by decide) ?_ | ((first | refine gM (mdL [(4, 1), (5, 2), (7, 1), (8, 1)]) ?_ | (with_reducible refine wM ?_ ?_) | ((with_reducible refine xR ?_); refine uE 17 (mdL [(4, 1), (5, 2), (7, 1), (8, 1)]) pSLoop_8_17E pSLoop_8_17P 83 rfl (by kernel_rfl) ?_)) <;> ((try with_reducible intro K1 hK1); simp only [go_sem, ↓reduceIte, reduceCtorEq, nA, nB, nC, nD, nE, nF, hH, hl6, htk6, hdr6] <;> and_intros <;> first | (apply hK1; clear hK1 K1) | (intros; first | omega | decide | (simp_all <;> omega)) | skip))))
                  refine awp_cond (t := _) rfl (fun h6 => ?_) (fun h6 => ?_)
                  · simp only [decide_eq_true_eq] at h6
                    (repeat (first | refine gO (by decide) ?_ | ((first | refine gM (mdL [(4, 1), (5, 2), (7, 1), (8, 1)]) ?_ | (with_reducible refine wM ?_ ?_) | ((with_reducible refine xR ?_); refine uE 17 (mdL [(4, 1), (5, 2), (7, 1), (8, 1)]) pSLoop_8_17E pSLoop_8_17P 83 rfl (by kernel_rfl) ?_)) <;> ((try with_reducible intro K1 hK1); simp only [go_sem, ↓reduceIte, reduceCtorEq, nA, nB, nC, nD, nE, nF, hH, hl6, htk6, hdr6] <;> and_intros <;> first | (apply hK1; clear hK1 K1) | (intros; first | omega | decide | (simp_all <;> omega)) | skip))))
                    exact ⟨n - 1, by omega, j + 1, _, by omega, hcs'.wrap (by unfold NB; omega) (by unfold NB; omega), st_mk3 rfl rfl (st_obj2 hio _ _ _ _ _ _)⟩
                  · simp only [decide_eq_false_iff_not] at h6
                    (repeat (first | refine gO (by decide) ?_ | ((first | refine gM (mdL [(4, 1), (5, 2), (7, 1), (8, 1)]) ?_ | (with_reducible refine wM ?_ ?_) | ((with_reducible refine xR ?_); refine uE 17 (mdL [(4, 1), (5, 2), (7, 1), (8, 1)]) pSLoop_8_17E pSLoop_8_17P 83 rfl (by kernel_rfl) ?_)) <;> ((try with_reducible intro K1 hK1); simp only [go_sem, ↓reduceIte, reduceCtorEq, nA, nB, nC, nD, nE, nF, hH, hl6, htk6, hdr6] <;> and_intros <;> first | (apply hK1; clear hK1 K1) | (intros; first | omega | decide | (simp_all <;> omega)) | skip))))
                    exact ⟨cs', T1, a2 + 1, hcs'.up (by omega), hT1, by omega, rfl⟩
theorem g_Loop (d : Nat) (deep : Int) (hd : deep ≤ d ∧ -10 ≤ deep ∧ d ≤ 100) (i : Nat) (l : List Int) (a : Int) (h : Hp) (hl : SOk l) (ha : 0 ≤ a ∧ a + costR d + 2 * d + 40 ≤ 900000000) :
    ACalls Tryz.prog 8 [.ptr i 0, .v (.int .i64 deep)] (h.st i l a) (fun r h' => ∃ t a', LC (d + 20) t ∧ (a ≤ a' ∧ a' ≤ a + costR d + 2 * d + 40) ∧ r = .agg (encL t) ∧ h' = h.st i l a') := by
  refine (g_Loop0 d deep hd i l a h hl ha).gup ?_
  rintro _ _ G w v ⟨cs, T', a', hcs, hT', ha', rfl, rfl⟩ hs hr
  obtain ⟨G', hle, hfr, hs2, hf⟩ := hs.freeze (h2 := h.st i l a') (fun k => h.T k = none) rfl (fun k hk => hk) (fun k hk => (hT' k hk).symm)
  obtain ⟨t, ht, hrep⟩ := OLd.freeze hle hf _ _ hcs
  obtain ⟨vs, rfl, hvs⟩ := RepL.of_agg hr
  exact ⟨_, _, G', ⟨t, a', ht, ha', rfl, rfl⟩, hle, hfr, hs2, (hrep _ hvs).agg⟩
open Go Go.RowKit
set_option linter.unusedVariables false
set_option linter.unusedSimpArgs false
def ARow (w : World) (a : Option Addr) (len cap : Nat) (zs : List Int) : Prop :=
  (a = none ∧ len = 0 ∧ cap = 0 ∧ zs = []) ∨ ∃ b : Addr, a = some b ∧ len ≤ cap ∧ cap ≤ maxLen ∧ zs.length = cap ∧ (∀ i, i < zs.length → w.cell? (b.add i) = some (.int .i64 (zs.getD i 0)) ∧ w.frozen? (b.add i) = false) ∧ (∀ n ∈ zs, (Lit.int .i64 n).wf = true)
def G0 (w : World) : Gh := ⟨fun g o => cellT w g o, fun _ => none, fun _ => none, 0⟩
def H0 : Hp := ⟨fun _ => none, fun _ => none⟩
theorem hsim_all (w : World) : HSim (G0 w) H0 w where
  val _ _ _ h := h
  obj _ _ h := by cases h
  inj _ _ _ h := absurd rfl h
  tok _ _ h := by cases h
  tinj _ _ _ _ h := absurd rfl h
  tobj _ _ _ h := absurd rfl h
  fat _ _ := rfl
  ftl _ _ := rfl
theorem below_of_fr {G G' : Gh} {h' : Hp} {w w' : World} (f : Fr G H0 w G' h' w') : Below w.heap.size w w' :=
  ⟨f.os, f.tape, f.output, f.size, fun b hb => (f.keep b hb (fun o => by rcases o with ⟨_, h, _⟩ | ⟨_, _, h, _⟩ <;> exact h rfl)).1⟩
theorem rep_v_inv0 {G : Gh} {x y : Value} (h : Rep G (.v x) y) : y = x := by cases h; rfl
theorem flat_encI (l : List Int) : (l.map encI).flatten = l.map fun x => AV.v (.int .i64 x) := by
  induction l with
  | nil => rfl
  | cons x q ih => simp [encI, ih]
theorem arow_rep {w : World} {a : Option Addr} {len cap : Nat} {zs : List Int} (h : ARow w a len cap zs) : ∃ l : List Int, SOk l ∧ Rep (G0 w) (.row 1 (l.map encI) none) (.slice a len cap) := by
  rcases h with ⟨rfl, rfl, rfl, _⟩ | ⟨⟨b, o, sp⟩, rfl, hl, hm, hz, hc, hwz⟩
  · exact ⟨[], ⟨by simp, by simp⟩, .nil 1 none trivial⟩
  · by_cases h0 : cap = 0
    · subst h0
      obtain rfl : len = 0 := by omega
      exact ⟨[], ⟨by simp, by simp⟩, .nilA 1 _⟩
    · have hsp : sp = none := by
        have h1 := (hc 0 (by omega)).1
        rw [show (⟨b, o, sp⟩ : Addr).add 0 = ⟨b, o, sp⟩ from rfl] at h1
        cases sp with
        | none => rfl
        | some s =>
          simp only [World.cell?] at h1
          split at h1 <;> simp at h1
      subst hsp
      refine ⟨zs.take len, ⟨by have hm2 : maxLen = 9223372036854775807 := rfl; rw [List.length_take]; omega, fun x hx => ?_⟩, ?_⟩
      · have h1 := hwz x (List.mem_of_mem_take hx)
        simp only [Lit.wf, Bool.and_eq_true, decide_eq_true_eq] at h1
        exact ⟨h1.1, h1.2⟩
      · have hlen : (zs.take len).length = len := by simp; omega
        have h2 := Rep.row_mk (G := G0 w) (z := 1) (xs := (zs.take len).map encI) (g := b) (o := o) (c := cap) (us := (zs.take len).map fun x => Value.int .i64 x) (by rw [List.length_map, hlen]; exact hl)
          (fun y hy => by obtain ⟨x, _, rfl⟩ := List.mem_map.1 hy; rfl) (by
            rw [flat_encI]
            refine ⟨by simp, fun j a b => ?_⟩
            simp only [List.getElem_map]
            exact ⟨.v _ rfl, rfl⟩) (fun j y hy => by
            rw [List.getElem?_map] at hy
            obtain ⟨x, hx, rfl⟩ := Option.map_eq_some_iff.1 hy
            rw [List.getElem?_take] at hx
            split at hx
            · have hjl := (List.getElem?_eq_some_iff.1 hx).1
              have h3 := hc j hjl
              rw [List.getD_eq_getElem?_getD, hx, Addr.add_lit] at h3
              show cellT w b (o + j) = _
              rw [cellT, h3.2]; exact h3.1
            · cases hx)
        rwa [List.length_map, hlen] at h2
theorem law_calls {f : Nat} (hlaw : ∀ (l : List Int) (h : Hp), SOk l → ACalls Tryz.prog f [.row 1 (l.map encI) none] h (fun r _ => r = .v (.bool true))) (a : Option Addr) (len cap : Nat) (zs : List Int) (w : World) (h : ARow w a len cap zs) :
    Calls Tryz.prog f #[.slice a len cap] w fun e w' => e = .returned (.bool true) ∧ Below w.heap.size w w' := by
  obtain ⟨l, hl, hrep⟩ := arow_rep h
  refine ((hlaw l H0 hl).calls _ w #[.slice a len cap] (hsim_all w) rfl (fun j hj => ?_)).mono ?_
  · simp only [List.length_cons, List.length_nil, Nat.zero_add, Nat.lt_one_iff] at hj
    subst hj
    exact hrep
  · rintro _ w' ⟨r, h', G', v, rfl, rfl, _, f, _, hv⟩
    exact ⟨by rw [rep_v_inv0 hv], below_of_fr f⟩
end Go.Proofs.YtoleejecmefogaaGreatDoor
