/- A string's bytes appended to a written row of bytes. -/
import Derived.Test.YtpnfkfbapfnboaaGreatDoorAvTok
import Derived.Test.YtpnfkfbapfnboaaGreatDoorAvOps5
import Derived.Lib.AppendStr
namespace Go.Proofs.YtpnfkfbapfnboaaGreatDoor
open Go
set_option linter.unusedVariables false
set_option linter.unusedSimpArgs false
def strRow (b : ByteArray) : List (List AV) := b.data.toList.map fun x => [.v (.int .u8 (x.toNat : Int))]
theorem strRow_len (b : ByteArray) : (strRow b).length = b.size := by simp [strRow]
theorem strRow_flat (b : ByteArray) : (strRow b).flatten = (Lib.strCells b).map AV.v := by
  unfold strRow Lib.strCells
  generalize b.data.toList = l
  induction l with
  | nil => rfl
  | cons x l ih => simp [ih]
theorem strRow_rep (G : Gh) (b : ByteArray) : RepL G (strRow b).flatten (Lib.strCells b) := by
  rw [strRow_flat]; exact RepL.map_v G (List.all_eq_true.2 fun x hx => Lib.strCells_oneCell b x hx)
def elemI (ty : Nat → Option TyD) (t : Nat) : Option Nat := match ty t with | some d => (match d.kind with | .slice e => some e | _ => none) | none => none
theorem elemI_info {P : Program} {ty : Nat → Option TyD} (hty : TyOk P ty) {t E : Nat} (h : elemI ty t = some E) : P.underlying t = some (.slice E) := by
  unfold elemI at h
  split at h
  · rename_i d hd
    obtain ⟨i, D, z, _, hu, _, _, hk, _⟩ := tyd_info (hty _ _ hd)
    split at h
    · rename_i e hke
      cases h
      rw [hke] at hk
      cases D <;> simp only [kindOf, reduceCtorEq, TyK.slice.injEq] at hk
      subst hk; exact hu
    · cases h
  · cases h
section
variable {P : Program} {c : Cx} {o : Oper} {s : St} {ty : Nat → Option TyD}
theorem append_none_str {t u e : TypeId} {tt : TypeId} {i : TypeInfo} (ht : P.underlying t = some (.slice e)) (hu : P.underlying u = some .string) (hi : P.info? e = some i) (base : Option Addr) (n c : Nat) (hc : n ≤ c) (b : ByteArray) (hb : b.size = 0) (w : World) :
    (Builtin.append_ #[t, u] tt #[.slice base n c, .string b]).run P w = .ok (.slice base n c) w := by
  have hs : Lib.strCells b = [] := List.eq_nil_of_length_eq_zero (by rw [Lib.strCells_length]; exact hb)
  have hf := Lib.run_firstCells_string (P := P) w i.size b
  rw [hb, hs] at hf
  cases base with
  | none => simp [Builtin.append_, run_underlying ht, run_underlying hu, sizeOf, typeInfo, hi, Builtin.lenOf, hc, hb, hf]
  | some a => simp [Builtin.append_, run_underlying ht, run_underlying hu, sizeOf, typeInfo, hi, Builtin.lenOf, hc, hb, hf, storeCells]
theorem a_appendStr (hty : TyOk P ty) {t u : Nat} {x y : Operand} (ho : o.op = .call { callee := .builtin .append, args := #[x, y], argTypes := #[t, u] }) {e : TyD} (he : elemD ty t = some e) (hstr : isStr ty u = true) {xs : List (List AV)} {k n : Nat} (hx : s.ev x = .arr 1 k n)
    (hT : s.h.T k = some (.cont 1 xs)) (hn : xs.length = n) {b : ByteArray} (hy : s.ev y = .v (.string b)) (hs1 : e.size = 1) (hb1 : e.bytes = 1) (hzl : e.zero.length = 1) (hbig : xs.length + b.size ≤ 140737488355328) {K : St → Prop}
    (hK : K ({ s with h := { s.h with T := upd s.h.T k (some (.cont 1 (xs ++ strRow b))) } }.put o.dst (.arr 1 k (n + b.size)))) : Aop P c o s K := by
  rintro a w ⟨G, L, sm, hg, hf, hL⟩ Kc Qc hk
  obtain ⟨ue, hu, hue⟩ := elemD_info hty he
  obtain ⟨i, D, zv, hi, hD, hisz, hiby, _, hiz, hz1, hzz⟩ := tyd_info hue
  have hus := isStr_info hty hstr
  have hxr0 := sm.eve hx
  have hyi := sm.evv hy
  have htk := sm.hs.tok k _ hT
  generalize hxv : a.eval x = xv at hxr0
  have hxr : Rep G (.arr 1 k n) xv := hxr0
  unfold Oper.wp
  have hexec : ∀ v w', (Builtin.append_ #[t, u] o.type #[xv, .string b]).run P w = .ok v w' → (execOp a.eval o).run P w = .ok (.value v) w' := fun v w' h => by
    simp only [execOp, ho, resolve, invoke, builtin, Sem.run_bind, Sem.run_pure, Result.andThen_ok, List.map_toArray, List.map_cons, List.map_nil, hxv, hyi, h]
  cases hxr with
  | arr _ _ _ p m cc ha =>
  obtain ⟨hkk, ⟨b', c', e1, hcc, hgg⟩, hm⟩ := ha
  simp only [Value.slice.injEq] at e1
  obtain ⟨rfl, rfl, rfl⟩ := e1
  have hyl := strRow_len b
  by_cases hm0 : b.size = 0
  · have hnil : strRow b = [] := List.eq_nil_of_length_eq_zero (by rw [hyl]; exact hm0)
    have hrun : (Builtin.append_ #[t, u] o.type #[.slice p m cc, .string b]).run P w = .ok (.slice p m cc) w := append_none_str hu hus hi _ _ _ hcc b hm0 w
    rw [hexec _ _ hrun]
    have e1 : upd s.h.T k (some (.cont 1 (xs ++ strRow b))) = s.h.T := by
      funext j
      by_cases hj : j = k
      · subst hj; rw [upd_same, hT, hnil]; simp
      · rw [upd_other _ _ hj]
    rw [e1, hm0, Nat.add_zero] at hK
    exact hk _ _ _ hK (In.put sm hg hf hL o.dst (RepT.of (.arr _ _ _ _ _ _ ⟨hkk, ⟨_, _, rfl, hcc, hgg⟩, hm⟩)))
  · have hlu : (Lib.strCells b).length = b.size := Lib.strCells_length b
    have hry := strRow_rep G b
    have hzys : ∀ y ∈ strRow b, y.length = 1 := fun y hy => by obtain ⟨x, _, rfl⟩ := List.mem_map.1 hy; rfl
    have hgrow : ∀ (olds : List Value) (oldc : Nat), RepL G xs.flatten olds → (∀ y ∈ xs, y.length = 1) →
        (Builtin.append_ #[t, u] o.type #[.slice p m cc, .string b]).run P w = .ok (.slice (some ⟨w.heap.size, 0, none⟩) (xs.length + b.size) (grownCap w (xs.length + b.size) oldc ue)) (w.drew.alloc (.cells (olds.toArray ++ (Lib.strCells b).toArray ++ Builtin.zeroCells zv.cells (grownCap w (xs.length + b.size) oldc ue - (xs.length + b.size))) ue)) →
        Oper.upon P o a Kc Qc ((execOp a.eval o).run P w) := by
      intro olds oldc hro hzx hrun
      rw [hexec _ _ hrun]
      have hlo : olds.length = xs.length * 1 := by rw [hro.1, flatten_len hzx]
      have hzvs : zv.cells.size = 1 := by rw [← hzl, hzz]; simp
      generalize hcap : grownCap w (xs.length + b.size) oldc ue = cap
      have hge : xs.length + b.size ≤ cap := by rw [← hcap]; exact grownCap_ge _ _ _ _
      have hcm : cap ≤ maxLen := by rw [← hcap]; exact grownCap_le_maxLen _ _ _ _ (by unfold maxLen; omega)
      have hall : RepL G (xs ++ strRow b).flatten (olds ++ Lib.strCells b) := by rw [List.flatten_append]; exact hro.append hry
      have hzall : ∀ y ∈ xs ++ strRow b, y.length = 1 := fun y hy => by
        rcases List.mem_append.1 hy with h | h
        · exact hzx y h
        · exact hzys y h
      have hxl : (xs ++ strRow b).length = xs.length + b.size := by rw [List.length_append, hyl]
      obtain ⟨G', rfl, s1, g1, f1⟩ := sm.setCont (k := k) (xs := xs ++ strRow b) (B := w.heap.size) (z := 1) (c := cap)
        (w' := w.drew.alloc (.cells (olds.toArray ++ (Lib.strCells b).toArray ++ Builtin.zeroCells zv.cells (cap - (xs.length + b.size))) ue)) (arr := olds.toArray ++ (Lib.strCells b).toArray ++ Builtin.zeroCells zv.cells (cap - (xs.length + b.size))) (E := ue) hT
        (fun b hb _ => RowKit.Below.heap_alloc w.drew _ b hb) (heap_alloc_new w.drew _) (by
          simp only [Array.size_append, List.size_toArray, size_zeroCells, hzvs, hlo, hlu]
          omega) (fun o => sm.hs.val_new (Nat.le_refl _) o) hzall (by
          have : ((olds.toArray ++ (Lib.strCells b).toArray ++ Builtin.zeroCells zv.cells (cap - (xs.length + b.size))).toList.take (xs ++ strRow b).flatten.length) = olds ++ Lib.strCells b := by
            rw [Array.toList_append, Array.toList_append, List.take_append_of_le_length (by rw [← hall.1]; simp), List.take_of_length_le (by rw [← hall.1]; simp)]
          rw [this]; exact hall) (by rw [hxl]; omega) hcm (by rw [hxl]; omega) (.inl (by rw [hxl]; omega)) (.inl (Nat.le_refl _)) rfl rfl rfl (by simp)
      refine hk _ _ _ hK (In.put s1 (hg.trans g1) (hf.trans f1) hL o.dst (RepT.of ?_))
      have hrep := rep_arr (G' := { G with tl := upd G.tl k (some (some ⟨w.heap.size, (xs ++ strRow b).length, 1, cap⟩)) }) (upd_same _ _ _) hkk (by rw [hxl]; omega)
      rw [hxl, hn] at hrep ⊢
      exact hrep
    rcases htk with ⟨htl, h0⟩ | ⟨tt, vs, E, htl, htm, htpos, hth, hts, htc, htcm, htf, htz, hzx, hrr⟩
    · subst h0
      rw [htl] at hm
      obtain ⟨rfl, ad, e2⟩ := hm
      simp only [Value.slice.injEq, true_and] at e2
      obtain ⟨rfl, rfl⟩ := e2
      have hzv : zv.cells.size = 1 := by rw [← hzl, hzz]; simp
      cases p with
      | none =>
        have hrun := run_append_nil_string (P := P) w t u o.type ue i zv hu hus hi hiz b (by omega) (by simp at hbig; omega) (by rw [hiby, hb1]; simp at hbig; omega)
        refine hgrow [] 0 (RepL.nil G) (by simp) ?_
        have e1 : (b.data.map fun x => Value.int .u8 x.toNat) = (Lib.strCells b).toArray := by
          apply Array.ext'
          simp [Lib.strCells]
        rw [e1] at hrun
        simpa using hrun
      | some ad =>
        have hrun := Lib.run_append_grow_string (P := P) w t u o.type ue i zv hu hus hi hiz ad 0 0 [] (by simp) (by simp) b (by omega) (by simp at hbig ⊢; omega) (by rw [hiby, hb1]; exact growslice_fits (by omega) (by simp at hbig ⊢; omega))
        refine hgrow [] 0 (RepL.nil G) (by simp) ?_
        simpa using hrun
    · rw [htl] at hm
      obtain ⟨hxe, _⟩ := hm.2 (by rw [htm, hn])
      simp only [Value.slice.injEq, true_and] at hxe
      obtain ⟨rfl, rfl⟩ := hxe
      have hfl := flatten_len hzx
      rw [htz] at hts
      have holdl : (vs.toList.take xs.flatten.length).length = xs.length * 1 := by rw [hrr.1, hfl]
      subst hn
      have hxl : (xs ++ strRow b).length = xs.length + b.size := by rw [List.length_append, hyl]
      by_cases hroom : xs.length + b.size ≤ tt.c
      · have hfit : xs.length + b.size ≤ vs.size := by rw [hts]; omega
        have hfc := Lib.run_firstCells_string (P := P) w 1 b
        have hst := run_storeCells_at P tt.g xs.length E (Lib.strCells b) 0 vs w hth (by simpa [hlu] using hfit) (Lib.strCells_oneCell b)
        have hrun : (Builtin.append_ #[t, u] o.type #[.slice (some ⟨tt.g, 0, none⟩) xs.length tt.c, .string b]).run P w = .ok (.slice (some ⟨tt.g, 0, none⟩) (xs.length + b.size) tt.c) (w.setRow tt.g (splice vs.toList xs.length (Lib.strCells b)).toArray) := by
          simp only [Nat.add_zero, hlu] at hst
          simp [Builtin.append_, run_underlying hu, run_underlying hus, sizeOf, typeInfo, hi, hisz, hs1, Builtin.lenOf, hroom, hfc, Addr.add_lit, hst, splice, hlu]
        rw [hexec _ _ hrun]
        have hsl : (splice vs.toList xs.length (Lib.strCells b)).length = vs.size := by rw [splice_len _ _ _ (by simpa [hlu] using hfit)]; simp
        have hall : RepL G (xs ++ strRow b).flatten (vs.toList.take xs.flatten.length ++ Lib.strCells b) := by rw [List.flatten_append]; exact hrr.append hry
        have hzall : ∀ y ∈ xs ++ strRow b, y.length = 1 := fun y hy => by
          rcases List.mem_append.1 hy with h | h
          · exact hzx y h
          · exact hzys y h
        obtain ⟨G', rfl, s1, g1, f1⟩ := sm.setCont (k := k) (xs := xs ++ strRow b) (B := tt.g) (z := 1) (c := tt.c)
          (w' := w.setRow tt.g (splice vs.toList xs.length (Lib.strCells b)).toArray) (arr := (splice vs.toList xs.length (Lib.strCells b)).toArray) (E := E) hT
          (fun b _ hne => heap_setRow _ hne) (setRow_heap w tt.g vs _ E (0, 0) hth) (by rw [List.size_toArray, hsl, hts]) htf hzall (by
            have : (splice vs.toList xs.length (Lib.strCells b)).toArray.toList.take (xs ++ strRow b).flatten.length = vs.toList.take xs.flatten.length ++ Lib.strCells b := by
              have e3 : xs.flatten.length = xs.length := by rw [hfl, Nat.mul_one]
              simp only [splice, e3]
              rw [List.take_append_of_le_length (by rw [← hall.1]; simp [e3]), List.take_of_length_le (by rw [← hall.1]; simp [e3])]
            rw [this]; exact hall) (by rw [hxl]; omega) htcm (by rw [hxl]; omega) (.inl (by rw [hxl]; omega)) (.inr ⟨tt, htl, rfl⟩) (by simp) (by simp) (by simp) (by simp)
        refine hk _ _ _ hK (In.put s1 (hg.trans g1) (hf.trans f1) hL o.dst (RepT.of ?_))
        have hrep := rep_arr (G' := { G with tl := upd G.tl k (some (some ⟨tt.g, (xs ++ strRow b).length, 1, tt.c⟩)) }) (upd_same _ _ _) hkk (by rw [hxl]; omega)
        rw [hxl] at hrep ⊢
        exact hrep
      · have holds : ∀ j v, (vs.toList.take xs.flatten.length)[j]? = some v → w.cell? ((⟨tt.g, 0, none⟩ : Addr).add j) = some v := fun j v hj => by
          rw [List.getElem?_take] at hj
          split at hj
          · rw [Addr.add_lit, Nat.zero_add]; simpa [World.cell?, hth] using hj
          · cases hj
        have hrun := Lib.run_append_grow_string (P := P) w t u o.type ue i zv hu hus hi hiz ⟨tt.g, 0, none⟩ xs.length tt.c (vs.toList.take xs.flatten.length) (by rw [hisz, hs1]; exact holdl) holds b (by omega) (by omega) (by rw [hiby, hb1]; exact growslice_fits (by omega) (by omega))
        exact hgrow _ tt.c hrr hzx hrun
theorem a_appendBuf (hty : TyOk P ty) {t u : Nat} {x y : Operand} (ho : o.op = .call { callee := .builtin .append, args := #[x, y], argTypes := #[t, u] }) {e : TyD} (he : elemD ty t = some e) {E : TypeId} (hE : elemI ty t = some E) (hstr : isStr ty u = true) {xs : List (List AV)} {k n : Nat} (hx : s.ev x = .arr 1 k n)
    (hT : s.h.T k = some (.buf E xs)) (hn : xs.length = n) {b : ByteArray} (hy : s.ev y = .v (.string b)) (hs1 : e.size = 1) (hb1 : e.bytes = 1) (hzl : e.zero.length = 1) (hbig : xs.length + b.size ≤ 140737488355328) {K : St → Prop}
    (hK : K ({ s with h := { s.h with T := upd s.h.T k (some (.buf E (xs ++ strRow b))) } }.put o.dst (.arr 1 k (n + b.size)))) : Aop P c o s K := by
  rintro a w ⟨G, L, sm, hg, hf, hL⟩ Kc Qc hk
  obtain ⟨ue, hu, hue⟩ := elemD_info hty he
  obtain ⟨i, D, zv, hi, hD, hisz, hiby, _, hiz, hz1, hzz⟩ := tyd_info hue
  have hus := isStr_info hty hstr
  have hEu := elemI_info hty hE
  obtain rfl : ue = E := by rw [hEu] at hu; injection hu with hu; injection hu with hu; exact hu.symm
  have hxr0 := sm.eve hx
  have hyi := sm.evv hy
  have htk := sm.hs.tok k _ hT
  generalize hxv : a.eval x = xv at hxr0
  have hxr : Rep G (.arr 1 k n) xv := hxr0
  unfold Oper.wp
  have hexec : ∀ v w', (Builtin.append_ #[t, u] o.type #[xv, .string b]).run P w = .ok v w' → (execOp a.eval o).run P w = .ok (.value v) w' := fun v w' h => by
    simp only [execOp, ho, resolve, invoke, builtin, Sem.run_bind, Sem.run_pure, Result.andThen_ok, List.map_toArray, List.map_cons, List.map_nil, hxv, hyi, h]
  cases hxr with
  | arr _ _ _ p m cc ha =>
  obtain ⟨hkk, ⟨b', c', e1, hcc, hgg⟩, hm⟩ := ha
  simp only [Value.slice.injEq] at e1
  obtain ⟨rfl, rfl, rfl⟩ := e1
  have hyl := strRow_len b
  by_cases hm0 : b.size = 0
  · have hnil : strRow b = [] := List.eq_nil_of_length_eq_zero (by rw [hyl]; exact hm0)
    have hrun : (Builtin.append_ #[t, u] o.type #[.slice p m cc, .string b]).run P w = .ok (.slice p m cc) w := append_none_str hu hus hi _ _ _ hcc b hm0 w
    rw [hexec _ _ hrun]
    have e1 : upd s.h.T k (some (.buf ue (xs ++ strRow b))) = s.h.T := by
      funext j
      by_cases hj : j = k
      · subst hj; rw [upd_same, hT, hnil]; simp
      · rw [upd_other _ _ hj]
    rw [e1, hm0, Nat.add_zero] at hK
    exact hk _ _ _ hK (In.put sm hg hf hL o.dst (RepT.of (.arr _ _ _ _ _ _ ⟨hkk, ⟨_, _, rfl, hcc, hgg⟩, hm⟩)))
  · have hlu : (Lib.strCells b).length = b.size := Lib.strCells_length b
    have hry := strRow_rep G b
    have hzys : ∀ y ∈ strRow b, y.length = 1 := fun y hy => by obtain ⟨x, _, rfl⟩ := List.mem_map.1 hy; rfl
    have hgrow : ∀ (olds : List Value) (oldc : Nat), RepL G xs.flatten olds → (∀ y ∈ xs, y.length = 1) →
        (Builtin.append_ #[t, u] o.type #[.slice p m cc, .string b]).run P w = .ok (.slice (some ⟨w.heap.size, 0, none⟩) (xs.length + b.size) (grownCap w (xs.length + b.size) oldc ue)) (w.drew.alloc (.cells (olds.toArray ++ (Lib.strCells b).toArray ++ Builtin.zeroCells zv.cells (grownCap w (xs.length + b.size) oldc ue - (xs.length + b.size))) ue)) →
        Oper.upon P o a Kc Qc ((execOp a.eval o).run P w) := by
      intro olds oldc hro hzx hrun
      rw [hexec _ _ hrun]
      have hlo : olds.length = xs.length * 1 := by rw [hro.1, flatten_len hzx]
      have hzvs : zv.cells.size = 1 := by rw [← hzl, hzz]; simp
      generalize hcap : grownCap w (xs.length + b.size) oldc ue = cap
      have hge : xs.length + b.size ≤ cap := by rw [← hcap]; exact grownCap_ge _ _ _ _
      have hcm : cap ≤ maxLen := by rw [← hcap]; exact grownCap_le_maxLen _ _ _ _ (by unfold maxLen; omega)
      have hall : RepL G (xs ++ strRow b).flatten (olds ++ Lib.strCells b) := by rw [List.flatten_append]; exact hro.append hry
      have hzall : ∀ y ∈ xs ++ strRow b, y.length = 1 := fun y hy => by
        rcases List.mem_append.1 hy with h | h
        · exact hzx y h
        · exact hzys y h
      have hxl : (xs ++ strRow b).length = xs.length + b.size := by rw [List.length_append, hyl]
      obtain ⟨G', rfl, s1, g1, f1⟩ := sm.setBuf (k := k) (xs := xs ++ strRow b) (B := w.heap.size) (c := cap)
        (w' := w.drew.alloc (.cells (olds.toArray ++ (Lib.strCells b).toArray ++ Builtin.zeroCells zv.cells (cap - (xs.length + b.size))) ue)) (arr := olds.toArray ++ (Lib.strCells b).toArray ++ Builtin.zeroCells zv.cells (cap - (xs.length + b.size))) (E := ue) hT
        (fun b hb _ => RowKit.Below.heap_alloc w.drew _ b hb) (heap_alloc_new w.drew _) (by
          simp only [Array.size_append, List.size_toArray, size_zeroCells, hzvs, hlo, hlu]
          omega) (fun o => sm.hs.val_new (Nat.le_refl _) o) hzall (by
          have : ((olds.toArray ++ (Lib.strCells b).toArray ++ Builtin.zeroCells zv.cells (cap - (xs.length + b.size))).toList.take (xs ++ strRow b).flatten.length) = olds ++ Lib.strCells b := by
            rw [Array.toList_append, Array.toList_append, List.take_append_of_le_length (by rw [← hall.1]; simp), List.take_of_length_le (by rw [← hall.1]; simp)]
          rw [this]; exact hall) (by rw [hxl]; omega) hcm (by rw [hxl]; omega) (.inl (by rw [hxl]; omega)) (.inl (Nat.le_refl _)) rfl rfl rfl (by simp)
      refine hk _ _ _ hK (In.put s1 (hg.trans g1) (hf.trans f1) hL o.dst (RepT.of ?_))
      have hrep := rep_arr (G' := { G with tl := upd G.tl k (some (some ⟨w.heap.size, (xs ++ strRow b).length, 1, cap⟩)) }) (upd_same _ _ _) hkk (by rw [hxl]; omega)
      rw [hxl, hn] at hrep ⊢
      exact hrep
    rcases htk with ⟨htl, h0⟩ | ⟨tt, vs, htl, htm, htpos, hth, hts, htc, htcm, htf, htz, hzx, hrr⟩
    · subst h0
      rw [htl] at hm
      obtain ⟨rfl, ad, e2⟩ := hm
      simp only [Value.slice.injEq, true_and] at e2
      obtain ⟨rfl, rfl⟩ := e2
      have hzv : zv.cells.size = 1 := by rw [← hzl, hzz]; simp
      cases p with
      | none =>
        have hrun := run_append_nil_string (P := P) w t u o.type ue i zv hu hus hi hiz b (by omega) (by simp at hbig; omega) (by rw [hiby, hb1]; simp at hbig; omega)
        refine hgrow [] 0 (RepL.nil G) (by simp) ?_
        have e1 : (b.data.map fun x => Value.int .u8 x.toNat) = (Lib.strCells b).toArray := by
          apply Array.ext'
          simp [Lib.strCells]
        rw [e1] at hrun
        simpa using hrun
      | some ad =>
        have hrun := Lib.run_append_grow_string (P := P) w t u o.type ue i zv hu hus hi hiz ad 0 0 [] (by simp) (by simp) b (by omega) (by simp at hbig ⊢; omega) (by rw [hiby, hb1]; exact growslice_fits (by omega) (by simp at hbig ⊢; omega))
        refine hgrow [] 0 (RepL.nil G) (by simp) ?_
        simpa using hrun
    · rw [htl] at hm
      obtain ⟨hxe, _⟩ := hm.2 (by rw [htm, hn])
      simp only [Value.slice.injEq, true_and] at hxe
      obtain ⟨rfl, rfl⟩ := hxe
      have hfl := flatten_len hzx
      rw [htz] at hts
      have holdl : (vs.toList.take xs.flatten.length).length = xs.length * 1 := by rw [hrr.1, hfl]
      subst hn
      have hxl : (xs ++ strRow b).length = xs.length + b.size := by rw [List.length_append, hyl]
      by_cases hroom : xs.length + b.size ≤ tt.c
      · have hfit : xs.length + b.size ≤ vs.size := by rw [hts]; omega
        have hfc := Lib.run_firstCells_string (P := P) w 1 b
        have hst := run_storeCells_at P tt.g xs.length ue (Lib.strCells b) 0 vs w hth (by simpa [hlu] using hfit) (Lib.strCells_oneCell b)
        have hrun : (Builtin.append_ #[t, u] o.type #[.slice (some ⟨tt.g, 0, none⟩) xs.length tt.c, .string b]).run P w = .ok (.slice (some ⟨tt.g, 0, none⟩) (xs.length + b.size) tt.c) (w.setRow tt.g (splice vs.toList xs.length (Lib.strCells b)).toArray) := by
          simp only [Nat.add_zero, hlu] at hst
          simp [Builtin.append_, run_underlying hu, run_underlying hus, sizeOf, typeInfo, hi, hisz, hs1, Builtin.lenOf, hroom, hfc, Addr.add_lit, hst, splice, hlu]
        rw [hexec _ _ hrun]
        have hsl : (splice vs.toList xs.length (Lib.strCells b)).length = vs.size := by rw [splice_len _ _ _ (by simpa [hlu] using hfit)]; simp
        have hall : RepL G (xs ++ strRow b).flatten (vs.toList.take xs.flatten.length ++ Lib.strCells b) := by rw [List.flatten_append]; exact hrr.append hry
        have hzall : ∀ y ∈ xs ++ strRow b, y.length = 1 := fun y hy => by
          rcases List.mem_append.1 hy with h | h
          · exact hzx y h
          · exact hzys y h
        obtain ⟨G', rfl, s1, g1, f1⟩ := sm.setBuf (k := k) (xs := xs ++ strRow b) (B := tt.g) (c := tt.c)
          (w' := w.setRow tt.g (splice vs.toList xs.length (Lib.strCells b)).toArray) (arr := (splice vs.toList xs.length (Lib.strCells b)).toArray) (E := ue) hT
          (fun b _ hne => heap_setRow _ hne) (setRow_heap w tt.g vs _ ue (0, 0) hth) (by rw [List.size_toArray, hsl, hts]) htf hzall (by
            have : (splice vs.toList xs.length (Lib.strCells b)).toArray.toList.take (xs ++ strRow b).flatten.length = vs.toList.take xs.flatten.length ++ Lib.strCells b := by
              have e3 : xs.flatten.length = xs.length := by rw [hfl, Nat.mul_one]
              simp only [splice, e3]
              rw [List.take_append_of_le_length (by rw [← hall.1]; simp [e3]), List.take_of_length_le (by rw [← hall.1]; simp [e3])]
            rw [this]; exact hall) (by rw [hxl]; omega) htcm (by rw [hxl]; omega) (.inl (by rw [hxl]; omega)) (.inr ⟨tt, htl, rfl⟩) (by simp) (by simp) (by simp) (by simp)
        refine hk _ _ _ hK (In.put s1 (hg.trans g1) (hf.trans f1) hL o.dst (RepT.of ?_))
        have hrep := rep_arr (G' := { G with tl := upd G.tl k (some (some ⟨tt.g, (xs ++ strRow b).length, 1, tt.c⟩)) }) (upd_same _ _ _) hkk (by rw [hxl]; omega)
        rw [hxl] at hrep ⊢
        exact hrep
      · have holds : ∀ j v, (vs.toList.take xs.flatten.length)[j]? = some v → w.cell? ((⟨tt.g, 0, none⟩ : Addr).add j) = some v := fun j v hj => by
          rw [List.getElem?_take] at hj
          split at hj
          · rw [Addr.add_lit, Nat.zero_add]; simpa [World.cell?, hth] using hj
          · cases hj
        have hrun := Lib.run_append_grow_string (P := P) w t u o.type ue i zv hu hus hi hiz ⟨tt.g, 0, none⟩ xs.length tt.c (vs.toList.take xs.flatten.length) (by rw [hisz, hs1]; exact holdl) holds b (by omega) (by omega) (by rw [hiby, hb1]; exact growslice_fits (by omega) (by omega))
        exact hgrow _ tt.c hrr hzx hrun
end
end Go.Proofs.YtpnfkfbapfnboaaGreatDoor

