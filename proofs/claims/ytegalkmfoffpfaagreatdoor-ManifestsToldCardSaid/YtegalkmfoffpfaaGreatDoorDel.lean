/- slices.IndexFunc, ContainsFunc at strings; slices.DeleteFunc at strings and at chunks: the function value may make memory. -/
import Derived.Test.YtegalkmfoffpfaaGreatDoorFuncs2
import Derived.Test.YtegalkmfoffpfaaGreatDoorFiles
import Derived.Test.YtegalkmfoffpfaaGreatDoorGenMan2
import Derived.Lib.SliceRun
namespace Go.Proofs.YtegalkmfoffpfaaGreatDoor
open Go.RowKit
attribute [local go_sem ↓] Go.wp_at_zero Go.wp_at_succ

def At1 (w : World) (A : Option Addr) (n : Nat) (x : Nat → Value) : Prop := ∀ i, i < n → ∃ b o, A = some ⟨b, o, none⟩ ∧ b < w.heap.size ∧ w.cell? ⟨b, o + i, none⟩ = some (x i)
theorem At1.below {w w' : World} {A : Option Addr} {n : Nat} {x : Nat → Value} (h : At1 w A n x) (hb : Below w.heap.size w w') : At1 w' A n x := fun i hi =>
  let ⟨b, o, e, hl, c0⟩ := h i hi
  ⟨b, o, e, Nat.lt_of_lt_of_le hl hb.size, bold hb c0⟩
def Pred1 (P : Program) (g : Nat) (lb : Array Value) (x : Nat → Value) (n : Nat) (p : Nat → Bool) (w : World) : Prop :=
  ∀ (W : World) (i : Nat), i < n → Below w.heap.size w W → Calls P g (#[x i] ++ lb) W fun e w' => e = .returned (.bool (p i)) ∧ Below W.heap.size W w'
set_option maxRecDepth 100000 in
set_option maxHeartbeats 1000000 in
theorem indexFuncStr (A : Option Addr) (n c : Nat) (x : Nat → Value) (p : Nat → Bool) (g : Nat) (lb : Array Value) (eg : ∀ args w, (callFunc g args).run Tryz.prog w = .ok (.enter g args) w) (w : World)
    (hA : At1 w A n x) (hp : Pred1 Tryz.prog g lb x n p w) (hn : n ≤ 1000000000) :
    Calls Tryz.prog 181 #[.slice A n c, .func (.func g) #[] lb] w fun e w' => e = .returned (.int .i64 (idxI p n)) ∧ Below w.heap.size w w' := by
  have HA := Lib.hid hA
  have HP := Lib.hid hp
  clear hA hp
  go_enter Tryz.func181, Tryz.ntmps181
  go_wp2_with fail
  go_loopg [8, 5] n (fun g i _ wr => IdxRel p n w g i wr)
  case atStart => exact ⟨0, by omega, rfl, fun j hj => absurd hj (Nat.not_lt_zero _), Below.refl _ _⟩
  case round =>
    obtain ⟨k, hk, rfl, hno, hb⟩ := hrel
    by_cases hg : gk = 0
    · obtain rfl : k = n := by omega
      have HV := Lib.hid (idxI_miss hno)
      clear hno hk hg
      go_wp2_with fail
      go_ret
      exact ⟨ret_int HV.out.symm, hb⟩
    · have hlt : k < n := by omega
      obtain ⟨b, o, rfl, hbl, c0⟩ := HA.out.below hb k hlt
      have hcall := HP.out wr k hlt hb
      have HK := Lib.hid hk
      have HNO := Lib.hid hno
      have hgk : gk ≠ 0 := hg
      clear hk hno hg
      generalize x k = xk at *
      rcases Bool.eq_false_or_eq_true (p k) with hq | hq
      · have HV := Lib.hid (idxI_hit hlt hq HNO.out)
        rw [hq] at hcall
        clear hq
        go_wp2_with (go_at_fn g; refine hcall.mono ?_; rintro e w1 ⟨rfl, hb1⟩)
        go_ret
        exact ⟨ret_int HV.out.symm, bon hb hb1⟩
      · have HQ := Lib.hid hq
        rw [hq] at hcall
        clear hq
        go_wp2_with (go_at_fn g; refine hcall.mono ?_; rintro e w1 ⟨rfl, hb1⟩)
        go_roundg (gk - 1)
        case measure => omega
        case rel =>
          refine ⟨k + 1, by have := HK.out; omega, by go_num, fun j hj => ?_, bon hb hb1⟩
          rcases Nat.lt_or_ge j k with h | h
          · exact HNO.out j h
          · rw [show j = k by omega]; exact HQ.out
set_option maxRecDepth 100000 in
set_option maxHeartbeats 1000000 in
theorem containsFuncStr (A : Option Addr) (n c : Nat) (x : Nat → Value) (p : Nat → Bool) (g : Nat) (lb : Array Value) (eg : ∀ args w, (callFunc g args).run Tryz.prog w = .ok (.enter g args) w) (w : World)
    (hA : At1 w A n x) (hp : Pred1 Tryz.prog g lb x n p w) (hn : n ≤ 1000000000) :
    Calls Tryz.prog 123 #[.slice A n c, .func (.func g) #[] lb] w fun e w' => e = .returned (.bool (anyI p n)) ∧ Below w.heap.size w w' := by
  have HC := Lib.hid (indexFuncStr A n c x p g lb eg w hA hp hn)
  clear hA hp
  go_enter Tryz.func123, Tryz.ntmps123
  go_wp2_with fail
  refine HC.out.mono ?_
  rintro e w1 ⟨rfl, hb1⟩
  go_wp2_with fail
  go_ret
  exact ⟨rfl, hb1⟩

/-! ### What DeleteFunc leaves -/
theorem run_clear_any {P : Program} (w : World) (t e ty : TypeId) (z : Value) (ht : P.underlying t = some (.slice e)) (hv : ∀ w, (zeroValue e).run P w = .ok z w) (b o n c : Nat) (hn : 0 < n) (zs : List Value) (hz : (Builtin.zeroCells z.cells n).toList = zs)
    (hc : ∀ j, j < zs.length → (w.cell? ⟨b, o + j, none⟩).isSome = true) (hf : ∀ j, j < zs.length → w.frozen? ⟨b, o + j, none⟩ = false) (h1 : ∀ v ∈ zs, v.oneCell' = true) :
    (Builtin.clear_ #[t] ty #[.slice (some ⟨b, o, none⟩) n c]).run P w = .ok (.tuple #[]) (w.setCells b o zs) := by
  have hst := run_storeCells_cells (P := P) b o zs 0 w (by simpa using hc) (by simpa using hf) h1
  simp only [Nat.add_zero] at hst
  obtain ⟨m, rfl⟩ : ∃ m, n = m + 1 := ⟨n - 1, by omega⟩
  simp [Builtin.clear_, run_underlying ht, hv, hz, hst]
theorem below_setCells {B b : Nat} {W : World} (hb : B ≤ b) : ∀ (vs : List Value) (o : Nat) (w : World), Below B W w → Below B W (w.setCells b o vs)
  | [], _, _, h => h
  | v :: vs, o, _, h => below_setCells hb vs (o + 1) _ (h.setCell (p := ⟨b, o, none⟩) hb v)
theorem setCells_size (b : Nat) : ∀ (vs : List Value) (o : Nat) (w : World), w.heap.size ≤ (w.setCells b o vs).heap.size
  | [], _, _ => Nat.le_refl _
  | v :: vs, o, w => Nat.le_trans (by simp [World.setCell]) (setCells_size b vs (o + 1) (w.setCell ⟨b, o, none⟩ v))
/-- Of the first j of ds those that stay stand at the head of xs; behind j all is as it was. -/
structure Kept {α : Type} (p : α → Bool) (ds xs : List α) (i j : Nat) : Prop where
  len : xs.length = ds.length
  head : xs.take i = (ds.take j).filter fun x => !p x
  tail : xs.drop j = ds.drop j
  lt : i < j
  le : j ≤ ds.length
theorem Kept.at_ {α : Type} {p : α → Bool} {ds xs : List α} {i j : Nat} (h : Kept p ds xs i j) (hj : j < ds.length) : xs[j]? = some ds[j] := by
  have := congrArg (·[0]?) h.tail
  simpa [List.getElem?_drop, List.getElem?_eq_getElem hj] using this
theorem Kept.drop_ {α : Type} {p : α → Bool} {ds xs : List α} {i j : Nat} (h : Kept p ds xs i j) (hj : j < ds.length) (hp : p ds[j] = true) : Kept p ds xs i (j + 1) := by
  refine ⟨h.len, ?_, ?_, by have := h.lt; omega, hj⟩
  · rw [List.take_succ_eq_append_getElem hj, List.filter_append, ← h.head]; simp [hp]
  · have := congrArg (List.drop 1) h.tail
    simpa [List.drop_drop] using this
theorem Kept.stay {α : Type} {p : α → Bool} {ds xs : List α} {i j : Nat} (h : Kept p ds xs i j) (hj : j < ds.length) (hp : p ds[j] = false) : Kept p ds (xs.set i ds[j]) (i + 1) (j + 1) := by
  have hlt := h.lt
  have hl := h.len
  refine ⟨by simpa using hl, ?_, ?_, by omega, hj⟩
  · rw [List.take_succ_eq_append_getElem hj, List.filter_append, ← h.head, List.take_succ_eq_append_getElem (by simp; omega), List.take_set_of_le (Nat.le_refl _)]
    simp [hp]
  · rw [List.drop_set_of_lt (by omega)]
    have := congrArg (List.drop 1) h.tail
    simpa [List.drop_drop] using this
/-- Where the first goes out. -/
theorem Kept.start {α : Type} {p : α → Bool} {ds : List α} {k : Nat} (hk : k < ds.length) (hp : p ds[k] = true) (hno : ∀ j (h : j < k), p (ds[j]'(by omega)) = false) : Kept p ds ds k (k + 1) := by
  refine ⟨rfl, ?_, rfl, by omega, hk⟩
  rw [List.take_succ_eq_append_getElem hk, List.filter_append]
  have : (ds.take k).filter (fun x => !p x) = ds.take k := by
    rw [List.filter_eq_self]
    intro x hx
    obtain ⟨j, hj, rfl⟩ := List.getElem_of_mem hx
    have hjk : j < k := by have := hj; rw [List.length_take] at this; omega
    simp only [List.getElem_take]
    rw [hno j hjk]; rfl
  rw [this]; simp [hp]
theorem Kept.done {α : Type} {p : α → Bool} {ds xs : List α} {i : Nat} (h : Kept p ds xs i ds.length) : xs.take i = ds.filter fun x => !p x := by
  have := h.head
  rwa [List.take_length] at this
/-- A function value that answers p x at each x of ds, whatever lies from base on; it only makes memory. -/
def PredD {α : Type} (P : Program) (g : Nat) (lb : Array Value) (enc : α → Value) (ds : List α) (p : α → Bool) (base : Nat) (w : World) : Prop :=
  ∀ (W : World) (x : α), x ∈ ds → Below base w W → Calls P g (#[enc x] ++ lb) W fun e w' => e = .returned (.bool (p x)) ∧ Below W.heap.size W w'
def DelRel {α : Type} (cells : α → List Value) (p : α → Bool) (ds : List α) (et : TypeId) (sz base : Nat) (v : Value) (w : World) (g : Nat) (s5 s6 : Value) (wr : World) : Prop :=
  ∃ (i j : Nat) (xs : List α), s5 = .int .i64 i ∧ s6 = .int .i64 j ∧ j + g = ds.length ∧ Kept p ds xs i j ∧ wr.ownsRow base et sz v ds.length (xs.flatMap cells) ∧ Below base w wr ∧ w.heap.size ≤ wr.heap.size
def stCell (s : ByteArray) : List Value := [.string s]
theorem stCell_map (l : List ByteArray) : l.flatMap stCell = l.map Value.string := by
  induction l with
  | nil => rfl
  | cons a l ih => rw [List.flatMap_cons, List.map_cons, ih]; rfl
theorem idx_cases {p : Nat → Bool} (n : Nat) : (idxI p n = -1 ∧ ∀ j, j < n → p j = false) ∨ ∃ k, k < n ∧ idxI p n = k ∧ p k = true ∧ ∀ j, j < k → p j = false := by
  unfold idxI
  cases h : (List.range n).find? p with
  | none =>
    rw [List.find?_eq_none] at h
    exact .inl ⟨rfl, fun j hj => by simpa using h j (by simpa using hj)⟩
  | some k =>
    rw [List.find?_eq_some_iff_getElem] at h
    obtain ⟨hp, i, hi, he, hj⟩ := h
    simp at hi he
    subst he
    exact .inr ⟨i, hi, rfl, hp, fun j h => by simpa using hj j h⟩
theorem own_head {w : World} {base e size n c : Nat} {A : Option Addr} {xs : List Value} (h : w.ownsRow base e size (.slice A n c) n xs) (h0 : 0 < n) : ∃ g, A = some ⟨g, 0, none⟩ ∧ base ≤ g ∧ g < w.heap.size ∧ n ≤ c ∧ c ≤ maxLen ∧ ∀ j, w.frozen? ⟨g, j, none⟩ = false := by
  rcases h.2 with ⟨_, hn⟩ | ⟨g, cap, cur, hv, hg, hh, hnc, hcm, _, _⟩
  · omega
  · simp only [Value.slice.injEq, true_and] at hv
    obtain ⟨rfl, rfl⟩ := hv
    exact ⟨g, rfl, hg, block_lt hh, hnc, hcm, fun j => by simp [World.frozen?, hh]⟩
theorem own_at {w : World} {base e size n c g j : Nat} {u : Value} {xs : List Value} (h : w.ownsRow base e size (.slice (some ⟨g, 0, none⟩) n c) n xs) (hu : xs[j]? = some u) : w.cell? ⟨g, j, none⟩ = some u := by
  have e : (⟨g, 0, none⟩ : Addr).add j = ⟨g, j, none⟩ := by unfold Addr.add; split <;> simp_all
  rw [← e]; exact own_cells h j u hu
theorem below_own {w w' : World} {base size n : Nat} {e : TypeId} {v : Value} {xs : List Value} (h : w.ownsRow base e size v n xs) (hb : Below w.heap.size w w') : w'.ownsRow base e size v n xs := ownsRow_below h hb

set_option maxRecDepth 100000 in
set_option maxHeartbeats 4000000 in
theorem deleteStr_any (A : Option Addr) (base c : Nat) (ds : List ByteArray) (p : ByteArray → Bool) (g : Nat) (lb : Array Value) (eg : ∀ args w, (callFunc g args).run Tryz.prog w = .ok (.enter g args) w) (w : World)
    (hown : w.ownsRow base 9 1 (.slice A ds.length c) ds.length (ds.flatMap stCell)) (hp : PredD Tryz.prog g lb Value.string ds p base w) (hn : ds.length ≤ 1000000000) (hbase : base ≤ w.heap.size) :
    Calls Tryz.prog 120 #[.slice A ds.length c, .func (.func g) #[] lb] w fun e w' => ∃ v, e = .returned v ∧ Lst w' base 1 v ((ds.filter fun x => !p x).flatMap stCell) ∧ Below base w w' := by
  have hA : At1 w A ds.length (fun i => .string (ds.getD i ⟨#[]⟩)) := fun i hi => by
    obtain ⟨b, o, u, e, _, hg, hu, hc⟩ := (Lst.of_own hown).at_ hi
    rw [stCell_map, List.getElem?_map, List.getElem?_eq_getElem hi] at hu
    obtain rfl : u = .string (ds.getD i ⟨#[]⟩) := by simp [List.getD, List.getElem?_eq_getElem hi] at hu ⊢; exact hu.symm
    exact ⟨b, o, e, hg, hc⟩
  have hpi : Pred1 Tryz.prog g lb (fun i => .string (ds.getD i ⟨#[]⟩)) ds.length (fun i => p (ds.getD i ⟨#[]⟩)) w := fun W i hi hb =>
    hp W _ (by simp [List.getD, List.getElem?_eq_getElem hi]) (hb.mono hbase)
  have HI := Lib.hid (indexFuncStr A ds.length c _ _ g lb eg w hA hpi hn)
  have HO := Lib.hid hown
  have HP := Lib.hid hp
  have gd : ∀ i (h : i < ds.length), ds.getD i ⟨#[]⟩ = ds[i] := fun i h => by simp [List.getD, List.getElem?_eq_getElem h]
  have HG := Lib.hid gd
  clear hA hpi hown hp gd
  have hz := fun w => show (zeroValue 9).run Tryz.prog w = .ok (.string ⟨#[]⟩) w by kernel_rfl
  have HZ := Lib.hid hz
  clear hz
  go_enter Tryz.func120, Tryz.ntmps120
  go_wp2_with fail
  refine HI.out.mono ?_
  rintro e w1 ⟨rfl, hb1⟩
  have HO1 := Lib.hid (ownsRow_below HO.out hb1)
  have B1 := hb1.mono hbase
  have z1 := hb1.size
  rcases idx_cases (p := fun i => p (ds.getD i ⟨#[]⟩)) ds.length with ⟨he, hall⟩ | ⟨k, hk, he, hpk, hno⟩
  · rw [he]
    have HF := Lib.hid (show ds.filter (fun x => !p x) = ds by
      rw [List.filter_eq_self]
      intro x hx
      obtain ⟨j, hj, rfl⟩ := List.getElem_of_mem hx
      have := hall j hj
      rw [HG.out j hj] at this
      rw [this]; rfl)
    clear he hall hb1
    go_wp2_with fail
    go_ret
    exact ⟨_, rfl, by rw [HF.out]; exact Lst.of_own HO1.out, B1⟩
  · rw [he]
    have hK0 := Lib.hid (Kept.start (p := p) hk (by rw [← HG.out k hk]; exact hpk) (fun j h => by rw [← HG.out j (by omega)]; exact hno j h))
    obtain ⟨gb, rfl, hgb, hgl, hnc, hcm, hfz⟩ := own_head HO.out (by omega)
    have hk1 : ((k : Int) == -1) = false := beq_eq_false_iff_ne.2 (by omega)
    have hk2 : k + 1 ≤ ds.length := hk
    clear he hpk hno hb1 hfz
    go_wp2_with fail
    go_loopg [5, 6, 7] (ds.length - (k + 1)) (fun g s5 s6 _ wr => DelRel stCell p ds 9 1 base (.slice (some ⟨gb, 0, none⟩) ds.length c) w g s5 s6 wr)
    case atStart => exact ⟨k, k + 1, ds, rfl, by go_num, by omega, hK0.out, HO1.out, B1, z1⟩
    case round =>
      obtain ⟨i, j, xs, rfl, rfl, hj, hkp, hown, hb, hz9⟩ := hrel
      have hij := hkp.lt
      have hjl := hkp.le
      by_cases hg : gk = 0
      · obtain rfl : j = ds.length := by omega
        have HD := Lib.hid hkp.done
        have hxl := hkp.len
        have hle : ∀ q, q < ds.length → ∃ u, wr.cell? ⟨gb, q, none⟩ = some u ∧ (xs.flatMap stCell)[q]? = some u := fun q hq => by
          have e : (xs.flatMap stCell)[q]? = some (.string (xs[q]'(by omega))) := by rw [stCell_map, List.getElem?_map, List.getElem?_eq_getElem (by omega)]; rfl
          exact ⟨_, own_at hown e, e⟩
        obtain ⟨gb', e', _, hgl2, _, _, hfr⟩ := own_head hown (by omega)
        simp only [Option.some.injEq, Addr.mk.injEq, and_true] at e'
        subst e'
        have hzl : (Builtin.zeroCells (Value.string ⟨#[]⟩).cells (ds.length - i)).toList.length = ds.length - i := by simp [Builtin.zeroCells, Value.cells]
        have hcl : ∀ ty, (Builtin.clear_ #[88] ty #[.slice (some ⟨gb, i, none⟩) (ds.length - i) (c - i)]).run Tryz.prog wr = .ok (.tuple #[]) (wr.setCells gb i (Builtin.zeroCells (Value.string ⟨#[]⟩).cells (ds.length - i)).toList) := fun ty =>
          run_clear_any wr _ _ ty _ Tryz.underlying88 HZ.out gb i _ _ (by omega) _ rfl (fun q hq => by rw [hzl] at hq; obtain ⟨u, hu, _⟩ := hle (i + q) (by omega); rw [hu]; rfl) (fun q _ => hfr _) (fun v hv => by
            simp [Builtin.zeroCells, Value.cells] at hv
            obtain ⟨_, _, rfl⟩ := hv
            simp [Nat.mod_one]; rfl)
        have HLE := Lib.hid hle
        have HB2 := Lib.hid (below_setCells hgb (Builtin.zeroCells (Value.string ⟨#[]⟩).cells (ds.length - i)).toList i wr hb)
        have HH := Lib.hid hkp.head
        have HCM := Lib.hid hcm
        clear hle hkp hown hj hg hfr hcm
        generalize (Builtin.zeroCells (Value.string ⟨#[]⟩).cells (ds.length - i)).toList = zs at *
        go_wp2_with fail
        go_ret
        refine ⟨_, rfl, ?_, HB2.out⟩
        rw [← HD.out]
        refine ⟨_, i, c, rfl, by omega, HCM.out, by rw [stCell_map, List.length_map, List.length_take]; omega, fun _ => ⟨gb, 0, rfl, hgb, Nat.lt_of_lt_of_le hgl (Nat.le_trans hz9 (setCells_size gb zs i wr)), fun q u hu => ?_⟩⟩
        rw [stCell_map, List.getElem?_map] at hu
        have hq : q < i := by
          rcases Nat.lt_or_ge q i with h | h
          · exact h
          · rw [List.getElem?_take, if_neg (by omega)] at hu; cases hu
        obtain ⟨u', hu', hx'⟩ := HLE.out q (by omega)
        rw [stCell_map, List.getElem?_map] at hx'
        rw [List.getElem?_take, if_pos hq, hx'] at hu
        rw [Nat.zero_add, World.cell?_setCells_out gb zs i wr ⟨gb, q, none⟩ (fun _ _ => .inl hq), hu']; exact hu
      · have hjn : j < ds.length := by omega
        have hx := hkp.at_ hjn
        have hxl := hkp.len
        have cj : wr.cell? ⟨gb, j, none⟩ = some (.string ds[j]) := own_at hown (by rw [stCell_map, List.getElem?_map, hx]; rfl)
        have hcall := HP.out wr ds[j] (List.getElem_mem hjn) hb
        have HD := Lib.hid (fun h : p ds[j] = true => hkp.drop_ hjn h)
        have HS := Lib.hid (fun h : p ds[j] = false => hkp.stay hjn h)
        have HJ := Lib.hid hj
        have hgk : gk ≠ 0 := hg
        have hbw : base ≤ wr.heap.size := by omega
        have hjlt : (j : Int) < (ds.length : Int) := by omega
        clear hj hg hx hkp
        generalize ds[j] = x at *
        rcases Bool.eq_false_or_eq_true (p x) with hq | hq
        · rw [hq] at hcall
          have HK2 := Lib.hid (HD.out hq)
          have HO2 := Lib.hid hown
          clear hq hown HD HS
          go_wp2_with (go_at_fn g; refine hcall.mono ?_; rintro e w2 ⟨rfl, hb2⟩)
          go_roundg (gk - 1)
          case measure => omega
          case rel => exact ⟨i, j + 1, xs, rfl, by go_num, by have := HJ.out; omega, HK2.out, ownsRow_below HO2.out hb2, hb.trans (hb2.mono hbw), by have := hb2.size; omega⟩
        · rw [hq] at hcall
          have HK2 := Lib.hid (HS.out hq)
          have HO2 := Lib.hid hown
          clear hq hown HD HS
          have hin : i < xs.length := by omega
          go_wp2_with (go_at_fn g; refine hcall.mono ?_; rintro e w2 ⟨rfl, hb2⟩; have own2 := ownsRow_below HO2.out hb2; have ci : w2.cell? ⟨gb, i, none⟩ = some (.string (xs[i]'hin)) := own_at own2 (by rw [stCell_map, List.getElem?_map, List.getElem?_eq_getElem hin]; rfl); have fi : w2.frozen? ⟨gb, i, none⟩ = false := own2.frozenAt i; have HST := Lib.hid (own2.stored i (.string x)).1; clear own2)
          go_roundg (gk - 1)
          case measure => omega
          case rel => exact ⟨i + 1, j + 1, xs.set i x, by go_num, by go_num, by have := HJ.out; omega, HK2.out, by have := HST.out; rw [stCell_map] at this ⊢; rw [List.map_set]; exact this, (hb.trans (hb2.mono hbw)).setCell (p := ⟨gb, i, none⟩) hgb _, by have := hb2.size; simp; omega⟩
end Go.Proofs.YtegalkmfoffpfaaGreatDoor
