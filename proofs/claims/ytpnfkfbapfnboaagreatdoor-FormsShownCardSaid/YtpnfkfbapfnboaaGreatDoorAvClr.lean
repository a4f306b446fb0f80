/- clear(s[i:]) of a written array. -/
import Derived.Test.YtpnfkfbapfnboaaGreatDoorAvOwn
namespace Go.Proofs.YtpnfkfbapfnboaaGreatDoor
open Go
set_option linter.unusedVariables false
set_option linter.unusedSimpArgs false
def AL (P : Program) (c : Cx) (all : Array Oper) (l : List Oper) (s : St) (K : St → Prop) : Prop :=
  ∀ a w, In c s a w → ∀ Qc : Exit → Act → World → Prop, (∀ s' a' w', K s' → In c s' a' w' → Qc .normal a' w') → wpList P all Qc l a w
section
variable {P : Program} {ty : Nat → Option TyD} {c : Cx} {all : Array Oper} {s : St} {K : St → Prop}
theorem AL.nil (h : K s) : AL P c all [] s K := fun a w hi Qc hk => hk s a w h hi
theorem AL.cons {o : Oper} {r : List Oper} (hg : o.guard = none) (h : Aop P c o s fun s1 => AL P c all r s1 K) : AL P c all (o :: r) s K :=
  fun a w hi Qc hk => wpList_plain hg fun K' hK' => h a w hi K' Qc fun s1 a1 w1 h1 hi1 => hK' _ _ (h1 a1 w1 hi1 Qc hk)
theorem awp_AL {id : Nat} {Q : Exit → St → Prop} (h : AL P c all all.toList s (Q .normal)) : Awp P c (.region id all false) Q s := fun a w hi =>
  wp_region_list (h a w hi _ fun s' a' w' h' hi' => ⟨s', h', hi'⟩)
theorem toList_zeroCells (z : Array Value) (n : Nat) (h : 0 < z.size) : (Builtin.zeroCells z n).toList = (List.replicate n z.toList).flatten := by
  have hfl : (List.replicate n z.toList).flatten.length = n * z.size := by
    have := flatten_len (z := z.size) (xs := List.replicate n z.toList) (fun x hx => by rw [(List.mem_replicate.1 hx).2]; simp)
    rw [this, List.length_replicate]
  refine List.ext_getElem? fun j => ?_
  by_cases hj : j < n * z.size
  · have hi : j / z.size < n := Nat.div_lt_of_lt_mul (by rwa [Nat.mul_comm])
    have hr := Nat.mod_lt j h
    have h1 := flatten_at (z := z.size) (xs := List.replicate n z.toList) (fun x hx => by rw [(List.mem_replicate.1 hx).2]; simp) (i := j / z.size) (by simpa using hi) (j := j % z.size) hr
    rw [Nat.div_add_mod'] at h1
    rw [h1]
    simp [Builtin.zeroCells, hj, hr]
  · rw [List.getElem?_eq_none (by simp [Builtin.zeroCells]; omega), List.getElem?_eq_none (by omega)]
theorem al_clear (hty : TyOk P ty) {o3 o4 : Oper} {t : Nat} {x : Operand} {lo : Option Operand} {C : Tmp} (ho3 : o3.op = .slice t x lo none none) (hd3 : o3.dst = some C) (hg3 : o3.guard = none)
    (ho4 : o4.op = .call { callee := .builtin .clear, args := #[.tmp C], argTypes := #[t] }) (hg4 : o4.guard = none) {e : TyD} (he : elemD ty t = some e) {z k n : Nat} (hx : s.ev x = .arr z k n) {j : Int} (hl : s.bnd lo 0 = some j)
    {xs : List (List AV)} (hT : s.h.T k = some (.cont z xs)) (hn : xs.length = n) (h0 : 0 ≤ j) (h1 : j < n) (hz : z = e.size) (hzl : e.zero.length = e.size) (hs0 : 0 < e.size) (hC : C < s.sl.length)
    (hK : K ((({ s with h := { s.h with T := upd s.h.T k (some (.cont z (xs.take j.toNat ++ List.replicate (n - j.toNat) e.zero))) } } : St).put (some C) .junk).put o4.dst (.tup []))) : AL P c all [o3, o4] s K := by
  rintro a w ⟨G, L, sm, hg, hf, hL⟩ Qc hk
  obtain ⟨u, hu, hue⟩ := elemD_info hty he
  obtain ⟨i, D, zv, hi, hD, hisz, hiby, _, hiz, hz1, hzz⟩ := tyd_info hue
  have hlo := sm.bnd hl
  have hxr0 := sm.eve hx
  generalize hq : a.eval x = q at hxr0
  have hxr : Rep G (.arr z k n) q := hxr0
  cases hxr with
  | arr _ _ _ ad m' cc ha =>
  obtain ⟨hkk, ⟨b', c', e1, hcc, hgg⟩, hmt⟩ := ha
  simp only [Value.slice.injEq] at e1
  obtain ⟨rfl, rfl, rfl⟩ := e1
  rcases sm.hs.tok k _ hT with ⟨_, e1⟩ | ⟨tt, vs, E, htl, htm, hc0, hth, hts, htc, htcm, htf, htz, hzx, hrr⟩
  · rw [e1] at hn; simp at hn; omega
  rw [htl] at hmt
  obtain ⟨hxe, _⟩ := hmt.2 (by rw [htm, hn])
  simp only [Value.slice.injEq] at hxe
  obtain ⟨rfl, _, rfl⟩ := hxe
  have hcc2 : m' ≤ tt.c := hcc
  have hb := bounds_run (P := P) true m' tt.c _ none j m' hlo (.inl ⟨rfl, rfl⟩) h0 (by omega) (by omega) w
  obtain ⟨jn, rfl⟩ : ∃ jn : Nat, j = jn := ⟨j.toNat, (Int.toNat_of_nonneg h0).symm⟩
  simp only [Int.toNat_natCast] at hb hK
  have hjm : jn < m' := by omega
  have hrun3 : (execOp a.eval o3).run P w = .ok (.value (.slice (some ⟨tt.g, jn * z, none⟩) (m' - jn) (tt.c - jn))) w := by
    have hne : ¬ (tt.c = jn) := by omega
    simp only [execOp, ho3, hq, Instr.sliceAt, Sem.run_bind, run_underlying hu, Result.andThen_ok, Instr.slice, Option.map_none, hb, sizeOf_run hue, Sem.run_pure]
    simp [Addr.add_lit, hz, hne]
  have hzc : zv.cells.size = i.size := by rw [hzz] at hzl; simp at hzl; omega
  have hzz2 : zv.cells.size = z := by omega
  have hzl2 : e.zero.length = z := by omega
  have hzs : (Builtin.zeroCells zv.cells (m' - jn)).toList = (List.replicate (m' - jn) zv.cells.toList).flatten := toList_zeroCells _ _ (by omega)
  have hz1' : ∀ x ∈ zv.cells.toList, x.oneCell' = true := List.all_eq_true.1 hz1
  generalize hZ : (List.replicate (m' - jn) zv.cells.toList).flatten = Z at hzs
  have hZl : Z.length = (m' - jn) * z := by
    rw [← hZ, flatten_len (z := z) (fun x hx => by rw [(List.mem_replicate.1 hx).2]; simpa using hzz2), List.length_replicate]
  have hZ1 : ∀ x ∈ Z, x.oneCell' = true := fun x hx => by
    rw [← hZ] at hx
    obtain ⟨y, hy, hxy⟩ := List.mem_flatten.1 hx
    rw [(List.mem_replicate.1 hy).2] at hxy
    exact hz1' x hxy
  have hfl := flatten_len hzx
  have hmz : jn * z + (m' - jn) * z = m' * z := by rw [← Nat.add_mul]; congr 1; omega
  have hcz : m' * z ≤ tt.c * z := Nat.mul_le_mul_right _ hcc2
  rw [htz] at hts
  have hst := run_storeCells_at P tt.g (jn * z) E Z 0 vs w hth (by rw [hZl, Nat.add_zero, hmz, hts]; exact hcz) hZ1
  simp only [Nat.add_zero] at hst
  have hrz : RepL G (List.replicate (m' - jn) e.zero).flatten Z := by
    rw [← hZ]
    have hz0 : RepL G e.zero zv.cells.toList := by rw [hzz]; exact RepL.map_v G hz1
    clear hZ hZl hZ1 hzs hst hrun3 hb hmz hK
    induction m' - jn with
    | zero => exact RepL.nil G
    | succ m ih => rw [List.replicate_succ, List.replicate_succ, List.flatten_cons, List.flatten_cons]; exact hz0.append ih
  have hzx2 : ∀ y ∈ xs.take jn ++ List.replicate (m' - jn) e.zero, y.length = z := fun y hy => by
    rcases List.mem_append.1 hy with h | h
    · exact hzx y (List.mem_of_mem_take h)
    · rw [(List.mem_replicate.1 h).2]; exact hzl2
  have hxl2 : (xs.take jn ++ List.replicate (m' - jn) e.zero).length = xs.length := by simp; omega
  have htf2 : (xs.take jn).flatten = xs.flatten.take (jn * z) := by
    have h9 : xs.flatten = (xs.take jn).flatten ++ (xs.drop jn).flatten := by rw [← List.flatten_append, List.take_append_drop]
    have h8 : (xs.take jn).flatten.length = jn * z := by rw [flatten_len (fun y hy => hzx y (List.mem_of_mem_take hy)), List.length_take]; congr 1; omega
    rw [h9, ← h8, List.take_left]
  have hfx : (xs.take jn ++ List.replicate (m' - jn) e.zero).flatten = splice xs.flatten (jn * z) (List.replicate (m' - jn) e.zero).flatten := by
    have h9 : (List.replicate (m' - jn) e.zero).flatten.length = (m' - jn) * z := by
      rw [flatten_len (z := z) (fun x hx => by rw [(List.mem_replicate.1 hx).2]; exact hzl2), List.length_replicate]
    rw [List.flatten_append, htf2, splice, h9, hmz, List.drop_eq_nil_of_le (by rw [hfl, hn]; exact Nat.le_refl _), List.append_nil]
  have hspl := hrr.splice hrz (jn * z)
  rw [← hfx, ← splice_take _ _ _ _ (by rw [hZl, hmz, hfl, hn]; exact Nat.le_refl _) (by rw [hfl, hn, Array.length_toList, hts]; exact hcz)] at hspl
  have hfl2 : (xs.take jn ++ List.replicate (m' - jn) e.zero).flatten.length = xs.flatten.length := by rw [flatten_len hzx2, hxl2, hfl]
  obtain ⟨G', _, s1, g1, f1⟩ := sm.setCont (xs := xs.take jn ++ List.replicate (m' - jn) e.zero) (z := z) (c := tt.c) (B := tt.g) (w' := w.setRow tt.g (splice vs.toList (jn * z) Z).toArray) hT (fun b' _ hb' => heap_setRow _ hb') (setRow_heap w tt.g vs _ E (0, 0) hth)
    (by rw [List.size_toArray, splice_len _ _ _ (by rw [hZl, hmz, Array.length_toList, hts]; exact hcz), Array.length_toList, hts]) htf hzx2 (by rw [hfl2]; exact hspl) (by rw [hxl2]; omega) htcm (by rw [hxl2]; omega) (.inr ⟨by rw [hxl2], rfl, tt, htl, rfl, rfl⟩) (.inr ⟨tt, htl, rfl⟩) (by simp) (by simp) (by simp) (by simp)
  refine wpList_plain hg3 fun K3 hK3 => ?_
  unfold Oper.wp
  rw [hrun3]
  refine hK3 _ _ ?_
  refine wpList_plain hg4 fun K4 hK4 => ?_
  unfold Oper.wp
  have hev : (a.put o3.dst (.slice (some ⟨tt.g, jn * z, none⟩) (m' - jn) (tt.c - jn))).eval (.tmp C) = .slice (some ⟨tt.g, jn * z, none⟩) (m' - jn) (tt.c - jn) := by
    have := sm.sz
    rw [hd3]
    simp only [Act.put, Act.eval]
    rw [Array.getD_eq_getD_getElem?, Array.getElem?_setIfInBounds_self_of_lt (Nat.lt_of_lt_of_le hC this)]
    rfl
  have hrun4 : (execOp (a.put o3.dst (.slice (some ⟨tt.g, jn * z, none⟩) (m' - jn) (tt.c - jn))).eval o4).run P w = .ok (.value (.tuple #[])) (w.setRow tt.g (splice vs.toList (jn * z) Z).toArray) := by
    obtain ⟨q, hq9⟩ : ∃ q, m' - jn = q + 1 := ⟨m' - jn - 1, by omega⟩
    have hzv : (zeroValue u).run P w = .ok zv w := by simp [zeroValue, typeInfo, hi, hiz]
    rw [hq9] at hzs hev
    rw [hq9]
    simp only [execOp, ho4, resolve, invoke, builtin, Sem.run_bind, Sem.run_pure, Result.andThen_ok, List.map_toArray, List.map_cons, List.map_nil, hev]
    simp [Builtin.clear_, run_underlying hu, hzv, hzs, hst, splice]
  rw [hrun4]
  rw [← hd3] at hK
  exact hK4 _ _ (hk _ _ _ hK (In.put (s1.put o3.dst (RepT.junk _)) (hg.trans g1) (by cases o3.dst <;> exact hf.trans f1) hL o4.dst (RepT.of (.tup [] #[] (fun _ => undef) rfl (fun j hj => by simp at hj) (fun j hj => by simp at hj)))))
end
end Go.Proofs.YtpnfkfbapfnboaaGreatDoor

