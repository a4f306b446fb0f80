/- slices.DeleteFunc at chunks. -/
import Derived.Test.YtegalkmfoffpfaaGreatDoorDel
namespace Go.Proofs.YtegalkmfoffpfaaGreatDoor
open Go.RowKit
attribute [local go_sem ↓] Go.wp_at_zero Go.wp_at_succ

def chV (c : ChunkD) : Value := .agg #[.string c.1, .int .i64 c.2]
theorem chC_at (xs : List ChunkD) {i : Nat} (h : i < xs.length) : (xs.flatMap chC)[i * 2]? = some (.string xs[i].1) ∧ (xs.flatMap chC)[i * 2 + 1]? = some (.int .i64 xs[i].2) := by
  have a := flat2_at xs chC (fun _ => rfl) i 0 h (by omega)
  have b := flat2_at xs chC (fun _ => rfl) i 1 h (by omega)
  exact ⟨by simpa [chC] using a, by rw [b]; rfl⟩
theorem chC_set (xs : List ChunkD) {i : Nat} (h : i < xs.length) (x : ChunkD) : ((xs.flatMap chC).set (i * 2) (.string x.1)).set (i * 2 + 1) (.int .i64 x.2) = (xs.set i x).flatMap chC := by
  have a := flat_set0 (fun c : ChunkD => Value.string c.1) (fun c => Value.int .i64 c.2) xs i (x.1, xs[i].2) h rfl
  have b := flat_set1 (fun c : ChunkD => Value.string c.1) (fun c => Value.int .i64 c.2) (xs.set i (x.1, xs[i].2)) i x (by simpa using h) (by simp)
  have e : (xs.flatMap chC).set (i * 2) (.string x.1) = (xs.set i (x.1, xs[i].2)).flatMap chC := a
  rw [e]
  have e2 : ((xs.set i (x.1, xs[i].2)).flatMap chC).set (i * 2 + 1) (.int .i64 x.2) = ((xs.set i (x.1, xs[i].2)).set i x).flatMap chC := b
  rw [e2, List.set_set]
set_option maxRecDepth 100000 in
set_option maxHeartbeats 4000000 in
theorem deleteChunk_any (A : Option Addr) (base c : Nat) (ds : List ChunkD) (p : ChunkD → Bool) (g : Nat) (lb : Array Value) (eg : ∀ args w, (callFunc g args).run Tryz.prog w = .ok (.enter g args) w) (w : World)
    (hown : w.ownsRow base 49 2 (.slice A ds.length c) ds.length (ds.flatMap chC)) (hp : PredD Tryz.prog g lb chV ds p base w) (hn : ds.length ≤ 1000000000) (hbase : base ≤ w.heap.size) :
    Calls Tryz.prog 125 #[.slice A ds.length c, .func (.func g) #[] lb] w fun e w' => ∃ v, e = .returned v ∧ Lst w' base 2 v ((ds.filter fun x => !p x).flatMap chC) ∧ Below base w w' := by
  have hA : At2 w A ds.length (fun i => .string (ds.getD i (⟨#[]⟩, 0)).1) (fun i => .int .i64 (ds.getD i (⟨#[]⟩, 0)).2) := fun i hi => by
    obtain ⟨b, o, e, hg, c0, c1⟩ := (Lst.of_own hown).chunk hi rfl
    have ed : ds.getD i (⟨#[]⟩, 0) = ds[i] := by simp [List.getD, List.getElem?_eq_getElem hi]
    rw [← ed] at c0 c1
    exact ⟨b, o, e, hg, c0, c1⟩
  have hpi : Pred2 Tryz.prog g lb (fun i => .string (ds.getD i (⟨#[]⟩, 0)).1) (fun i => .int .i64 (ds.getD i (⟨#[]⟩, 0)).2) ds.length (fun i => p (ds.getD i (⟨#[]⟩, 0))) w := fun W i hi hb =>
    hp W (ds.getD i (⟨#[]⟩, 0)) (by simp [List.getD, List.getElem?_eq_getElem hi]) (hb.mono hbase)
  have HI := Lib.hid (indexFuncChunk A ds.length c _ _ _ g lb eg w hA hpi hn)
  have HO := Lib.hid hown
  have HP := Lib.hid hp
  have gd : ∀ i (h : i < ds.length), ds.getD i (⟨#[]⟩, 0) = ds[i] := fun i h => by simp [List.getD, List.getElem?_eq_getElem h]
  have HG := Lib.hid gd
  clear hA hpi hown hp gd
  have hz := fun w => show (zeroValue 49).run Tryz.prog w = .ok (.agg #[.string ⟨#[]⟩, .int .i64 0]) w by kernel_rfl
  have HZ := Lib.hid hz
  clear hz
  go_enter Tryz.func125, Tryz.ntmps125
  go_wp2_with fail
  refine HI.out.mono ?_
  rintro e w1 ⟨rfl, hb1⟩
  have HO1 := Lib.hid (ownsRow_below HO.out hb1)
  have B1 := hb1.mono hbase
  have z1 := hb1.size
  rcases idx_cases (p := fun i => p (ds.getD i (⟨#[]⟩, 0))) ds.length with ⟨he, hall⟩ | ⟨k, hk, he, hpk, hno⟩
  · rw [he]
    have HF := Lib.hid (show ds.filter (fun x => !p x) = ds by
      rw [List.filter_eq_self]
      intro x hx
      obtain ⟨j, hj, rfl⟩ := List.getElem_of_mem hx
      have := hall j hj
      rw [HG.out j hj] at this
      rw [this]; rfl)
    clear he hall hb1
    go_wp2_with fail
    go_ret
    exact ⟨_, rfl, by rw [HF.out]; exact Lst.of_own HO1.out, B1⟩
  · rw [he]
    have hK0 := Lib.hid (Kept.start (p := p) hk (by rw [← HG.out k hk]; exact hpk) (fun j h => by rw [← HG.out j (by omega)]; exact hno j h))
    obtain ⟨gb, rfl, hgb, hgl, hnc, hcm, hfz⟩ := own_head HO.out (by omega)
    have hk1 : ((k : Int) == -1) = false := beq_eq_false_iff_ne.2 (by omega)
    have hk2 : k + 1 ≤ ds.length := hk
    clear he hpk hno hb1 hfz
    go_wp2_with fail
    go_loopg [5, 6, 7] (ds.length - (k + 1)) (fun g s5 s6 _ wr => DelRel chC p ds 49 2 base (.slice (some ⟨gb, 0, none⟩) ds.length c) w g s5 s6 wr)
    case atStart => exact ⟨k, k + 1, ds, rfl, by go_num, by omega, hK0.out, HO1.out, B1, z1⟩
    case round =>
      obtain ⟨i, j, xs, rfl, rfl, hj, hkp, hown, hb, hz9⟩ := hrel
      have hij := hkp.lt
      have hjl := hkp.le
      by_cases hg : gk = 0
      · obtain rfl : j = ds.length := by omega
        have HD := Lib.hid hkp.done
        have hxl := hkp.len
        have hle : ∀ q, q < ds.length * 2 → ∃ u, wr.cell? ⟨gb, q, none⟩ = some u ∧ (xs.flatMap chC)[q]? = some u := fun q hq => by
          have hl2 := flat2_len xs chC (fun _ => rfl)
          exact ⟨_, own_at hown (List.getElem?_eq_getElem (by omega)), List.getElem?_eq_getElem (by omega)⟩
        obtain ⟨gb', e', _, hgl2, _, _, hfr⟩ := own_head hown (by omega)
        simp only [Option.some.injEq, Addr.mk.injEq, and_true] at e'
        subst e'
        have hzl : (Builtin.zeroCells (Value.agg #[.string ⟨#[]⟩, .int .i64 0]).cells (ds.length - i)).toList.length = (ds.length - i) * 2 := by simp [Builtin.zeroCells, Value.cells]
        have hcl : ∀ ty, (Builtin.clear_ #[50] ty #[.slice (some ⟨gb, i * 2, none⟩) (ds.length - i) (c - i)]).run Tryz.prog wr = .ok (.tuple #[]) (wr.setCells gb (i * 2) (Builtin.zeroCells (Value.agg #[.string ⟨#[]⟩, .int .i64 0]).cells (ds.length - i)).toList) := fun ty =>
          run_clear_any wr _ _ ty _ Tryz.underlying50 HZ.out gb (i * 2) _ _ (by omega) _ rfl (fun q hq => by rw [hzl] at hq; obtain ⟨u, hu, _⟩ := hle (i * 2 + q) (by omega); rw [hu]; rfl) (fun q _ => hfr _) (fun v hv => by
            simp [Builtin.zeroCells, Value.cells] at hv
            obtain ⟨a, _, rfl⟩ := hv
            rcases Nat.mod_two_eq_zero_or_one a with h | h <;> rw [h] <;> rfl)
        have HLE := Lib.hid hle
        have HB2 := Lib.hid (below_setCells hgb (Builtin.zeroCells (Value.agg #[.string ⟨#[]⟩, .int .i64 0]).cells (ds.length - i)).toList (i * 2) wr hb)
        have HCM := Lib.hid hcm
        clear hle hkp hown hj hg hfr hcm
        generalize (Builtin.zeroCells (Value.agg #[.string ⟨#[]⟩, .int .i64 0]).cells (ds.length - i)).toList = zs at *
        go_wp2_with fail
        go_ret
        refine ⟨_, rfl, ?_, HB2.out⟩
        rw [← HD.out]
        have hl3 := flat2_len (xs.take i) chC (fun _ => rfl)
        have hl4 := flat2_len xs chC (fun _ => rfl)
        have htk : (xs.take i).flatMap chC = (xs.flatMap chC).take (i * 2) := by
          have e := List.take_append_drop i xs
          have e2 : xs.flatMap chC = (xs.take i).flatMap chC ++ (xs.drop i).flatMap chC := by rw [← List.flatMap_append, e]
          rw [e2, List.take_append_of_le_length (by rw [hl3, List.length_take]; omega), List.take_of_length_le (l := (xs.take i).flatMap chC) (by rw [hl3, List.length_take]; omega)]
        refine ⟨_, i, c, rfl, by omega, HCM.out, by rw [hl3, List.length_take]; omega, fun _ => ⟨gb, 0, rfl, hgb, Nat.lt_of_lt_of_le hgl (Nat.le_trans hz9 (setCells_size gb zs (i * 2) wr)), fun q u hu => ?_⟩⟩
        rw [htk] at hu
        have hq : q < i * 2 := by
          rcases Nat.lt_or_ge q (i * 2) with h | h
          · exact h
          · rw [List.getElem?_take, if_neg (by omega)] at hu; cases hu
        obtain ⟨u', hu', hx'⟩ := HLE.out q (by omega)
        rw [List.getElem?_take, if_pos hq, hx'] at hu
        rw [Nat.zero_add, World.cell?_setCells_out gb zs (i * 2) wr ⟨gb, q, none⟩ (fun _ _ => .inl hq), hu']; exact hu
      · have hjn : j < ds.length := by omega
        have hx := hkp.at_ hjn
        have hxl := hkp.len
        have hxe : xs[j]'(by omega) = ds[j] := by rw [List.getElem?_eq_getElem (by omega)] at hx; exact Option.some.inj hx
        have cj : wr.cell? ⟨gb, j * 2, none⟩ = some (.string ds[j].1) := by rw [← hxe]; exact own_at hown (chC_at xs (by omega)).1
        have cj1 : wr.cell? ⟨gb, j * 2 + 1, none⟩ = some (.int .i64 ds[j].2) := by rw [← hxe]; exact own_at hown (chC_at xs (by omega)).2
        have hbw : base ≤ wr.heap.size := by omega
        have hbx := hb.alloc hbw (.cells #[.string ds[j].1, .int .i64 ds[j].2] 49)
        have hcall := HP.out _ ds[j] (List.getElem_mem hjn) hbx
        have HD := Lib.hid (fun h : p ds[j] = true => hkp.drop_ hjn h)
        have HS := Lib.hid (fun h : p ds[j] = false => hkp.stay hjn h)
        have HJ := Lib.hid hj
        have hgk : gk ≠ 0 := hg
        have hjlt : (j : Int) < (ds.length : Int) := by omega
        have hgw : gb < wr.heap.size := World.block_lt_of_cell? wr _ cj
        clear hj hg hx hkp hxe
        generalize ds[j] = x at *
        obtain ⟨xk, xz⟩ := x
        have hcall2 : Calls Tryz.prog g (#[.agg #[.string xk, .int .i64 xz]] ++ lb) (wr.alloc (.cells #[.string xk, .int .i64 xz] 49)) fun e w' => e = .returned (.bool (p (xk, xz))) ∧ Below (wr.alloc (.cells #[.string xk, .int .i64 xz] 49)).heap.size (wr.alloc (.cells #[.string xk, .int .i64 xz] 49)) w' := hcall
        clear hcall
        rcases Bool.eq_false_or_eq_true (p (xk, xz)) with hq | hq
        · rw [hq] at hcall2
          have HK2 := Lib.hid (HD.out hq)
          have HO2 := Lib.hid (hown.alloc (.cells #[.string xk, .int .i64 xz] 49))
          clear hq hown HD HS
          go_wp2_with (go_at_fn g; refine hcall2.mono ?_; rintro e w2 ⟨rfl, hb2⟩)
          go_roundg (gk - 1)
          case measure => omega
          case rel => exact ⟨i, j + 1, xs, rfl, by go_num, by have := HJ.out; omega, HK2.out, ownsRow_below HO2.out hb2, hbx.trans (hb2.mono (by simp; omega)), by have := hb2.size; simp at this; omega⟩
        · rw [hq] at hcall2
          have HK2 := Lib.hid (HS.out hq)
          have HO2 := Lib.hid (hown.alloc (.cells #[.string xk, .int .i64 xz] 49))
          have hin : i < xs.length := by omega
          have HSE := Lib.hid (chC_set xs hin (xk, xz))
          have hilt : (i : Int) < (ds.length : Int) := by omega
          clear hq hown HD HS
          go_wp2_with (go_at_fn g; refine hcall2.mono ?_; rintro e w2 ⟨rfl, hb2⟩; have own2 := ownsRow_below HO2.out hb2; have ci := own_at own2 (chC_at xs hin).1; have ci1 := own_at own2 (chC_at xs hin).2; have fi : w2.frozen? ⟨gb, i * 2, none⟩ = false := own2.frozenAt (i * 2); have fi1 : w2.frozen? ⟨gb, i * 2 + 1, none⟩ = false := own2.frozenAt (i * 2 + 1); have k0 := bboxed hb2 0 _ rfl; have k1 := bboxed hb2 1 _ rfl; have kl := blt hb2; have HST := Lib.hid ((own2.stored (i * 2) (.string xk)).1.stored (i * 2 + 1) (.int .i64 xz)).1; clear own2)
          go_roundg (gk - 1)
          case measure => omega
          case rel => exact ⟨i + 1, j + 1, xs.set i (xk, xz), by go_num, by go_num, by have := HJ.out; omega, HK2.out, by have := HST.out; rw [← HSE.out]; exact this, ((hbx.trans (hb2.mono (by simp; omega))).setCell (p := ⟨gb, i * 2, none⟩) hgb _).setCell (p := ⟨gb, i * 2 + 1, none⟩) hgb _, by have := hb2.size; simp at this ⊢; omega⟩
end Go.Proofs.YtegalkmfoffpfaaGreatDoor
