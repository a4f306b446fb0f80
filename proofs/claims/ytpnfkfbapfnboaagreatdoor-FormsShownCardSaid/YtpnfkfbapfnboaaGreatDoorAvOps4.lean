/- Quiet operations on slices, strings, tuples; boxes that stay; literals. -/
import Derived.Test.YtpnfkfbapfnboaaGreatDoorAvOps3
namespace Go.Proofs.YtpnfkfbapfnboaaGreatDoor
open Go
set_option linter.unusedVariables false
set_option linter.unusedSimpArgs false
theorem Rep.row_inv {G : Gh} {z : Nat} {xs : List (List AV)} {k : Option Nat} {x : Value} (h : Rep G (.row z xs k) x) :
    (∃ a, x = .slice a 0 0 ∧ xs = []) ∨ ∃ g o c us, x = .slice (some ⟨g, o, none⟩) xs.length c ∧ xs.length ≤ c ∧ (∀ y ∈ xs, y.length = z) ∧ RepL G xs.flatten us ∧ ∀ j y, us[j]? = some y → G.val g (o + j) = some y := by
  cases h with
  | row _ _ _ g o n c u hn hc hz hu hr h1 ht =>
    subst hn
    have hl := flatten_len hz
    refine .inr ⟨g, o, c, (List.range xs.flatten.length).map u, rfl, hc, hz, RepL.of_fun u hr (fun j hj => h1 j (Nat.lt_of_lt_of_eq hj hl)), fun j y hy => ?_⟩
    rw [List.getElem?_map] at hy
    by_cases hj : j < xs.flatten.length
    · rw [List.getElem?_range hj] at hy; simp at hy; subst hy; exact hu j (Nat.lt_of_lt_of_eq hj hl)
    · rw [List.getElem?_eq_none (by simpa using Nat.le_of_not_lt hj)] at hy; cases hy
  | nil => exact .inl ⟨none, rfl, rfl⟩
  | nilA _ a => exact .inl ⟨a, rfl, rfl⟩
theorem Rep.row_mk {G : Gh} {z : Nat} {xs : List (List AV)} {g o c : Nat} {us : List Value} (hc : xs.length ≤ c) (hz : ∀ y ∈ xs, y.length = z) (hr : RepL G xs.flatten us) (hu : ∀ j y, us[j]? = some y → G.val g (o + j) = some y) :
    Rep G (.row z xs none) (.slice (some ⟨g, o, none⟩) xs.length c) := by
  have hl := flatten_len hz
  have hl2 := hr.1
  have hget : ∀ j (hj : j < us.length), us.getD j undef = us[j] := fun j hj => by simp [List.getD_eq_getElem?_getD, List.getElem?_eq_getElem hj]
  refine Rep.row z xs none g o xs.length c (fun j => us.getD j undef) rfl hc hz (fun j hj => ?_) (fun j hj => ?_) (fun j hj => ?_) trivial
  · have hj' : j < us.length := by omega
    exact hu j _ (by rw [hget j hj', List.getElem?_eq_getElem hj'])
  · have hj' : j < us.length := by omega
    show Rep G _ (us.getD j undef)
    rw [hget j hj']; exact (hr.2 j hj hj').1
  · have hj' : j < us.length := by omega
    show (us.getD j undef).oneCell' = true
    rw [hget j hj']; exact (hr.2 j (by omega) hj').2
theorem RepL.part {G : Gh} {cs : List AV} {us : List Value} {g b : Nat} (hr : RepL G cs us) (hu : ∀ j y, us[j]? = some y → G.val g (b + j) = some y) (o n : Nat) :
    RepL G ((cs.drop o).take n) ((us.drop o).take n) ∧ ∀ j y, ((us.drop o).take n)[j]? = some y → G.val g (b + o + j) = some y := by
  refine ⟨(hr.drop o).take n, fun j y hy => ?_⟩
  rw [List.getElem?_take] at hy
  split at hy
  · rw [Nat.add_assoc]; exact hu _ _ (by simpa using hy)
  · cases hy
theorem Rep.ref_mk {G : Gh} {cs : List AV} {us : List Value} {g b o : Nat} (hr : RepL G cs us) (hu : ∀ j y, us[j]? = some y → G.val g (b + j) = some y) : Rep G (.ref cs o) (.pointer (some ⟨g, b + o, none⟩)) := by
  have hl2 := hr.1
  have hget : ∀ j (hj : j < us.length), us.getD j undef = us[j] := fun j hj => by simp [List.getD_eq_getElem?_getD, List.getElem?_eq_getElem hj]
  refine Rep.ref cs o g b (fun j => us.getD j undef) (fun j hj => ?_) (fun j hj => ?_) (fun j hj => ?_)
  all_goals have hj' : j < us.length := by omega
  · exact hu j _ (by rw [hget j hj', List.getElem?_eq_getElem hj'])
  · show Rep G _ (us.getD j undef)
    rw [hget j hj']; exact (hr.2 j hj hj').1
  · show (us.getD j undef).oneCell' = true
    rw [hget j hj']; exact (hr.2 j (by omega) hj').2
theorem flatten_part {α : Type} {z : Nat} {xs : List (List α)} (hz : ∀ x ∈ xs, x.length = z) {i : Nat} (hi : i < xs.length) : (xs.flatten.drop (i * z)).take z = xs[i] := by
  apply List.ext_getElem?
  intro j
  rw [List.getElem?_take, List.getElem?_drop]
  split
  · rename_i hj; exact flatten_at hz hi hj
  · rename_i hj
    rw [List.getElem?_eq_none]
    rw [hz _ (List.getElem_mem hi)]; omega
theorem flatten_cut {α : Type} {z : Nat} : ∀ {xs : List (List α)} (_ : ∀ x ∈ xs, x.length = z) (l n : Nat), ((xs.drop l).take n).flatten = (xs.flatten.drop (l * z)).take (n * z)
  | [], _, l, n => by simp
  | x :: xs, hz, l + 1, n => by
    have hx := hz x (by simp)
    rw [List.drop_succ_cons, flatten_cut (fun y hy => hz y (by simp [hy])) l n, List.flatten_cons, List.drop_append, hx]
    have : x.drop ((l + 1) * z) = [] := by rw [List.drop_eq_nil_iff, hx, Nat.add_mul]; omega
    rw [this, List.nil_append]
    congr 2
    rw [Nat.add_mul]; omega
  | x :: xs, hz, 0, 0 => by simp
  | x :: xs, hz, 0, n + 1 => by
    have hx := hz x (by simp)
    have ih := flatten_cut (fun y hy => hz y (by simp [hy])) (xs := xs) 0 n
    simp only [List.drop_zero, Nat.zero_mul, List.take_succ_cons, List.flatten_cons] at ih ⊢
    rw [ih, List.take_append, hx]
    rw [List.take_of_length_le (l := x) (by rw [hx, Nat.add_mul]; omega)]
    congr 2
    rw [Nat.add_mul]; omega
def elemD (ty : Nat → Option TyD) (t : Nat) : Option TyD :=
  match ty t with
  | some d => match d.kind with
    | .slice e => ty e
    | _ => none
  | none => none
theorem elemD_info {P : Program} {ty : Nat → Option TyD} (hty : TyOk P ty) {t : Nat} {e : TyD} (h : elemD ty t = some e) : ∃ u, P.underlying t = some (.slice u) ∧ tyd P u = some e := by
  unfold elemD at h
  split at h
  · rename_i d hd
    split at h
    · rename_i u hk
      obtain ⟨i, D, z, _, hD, _, _, hkk, _⟩ := tyd_info (hty _ _ hd)
      rw [hk] at hkk
      cases D <;> simp only [kindOf, TyK.slice.injEq, reduceCtorEq] at hkk
      subst hkk
      exact ⟨_, hD, hty _ _ h⟩
    · cases h
  · cases h
section
variable {P : Program} {c : Cx} {o : Oper} {s : St} {ty : Nat → Option TyD}
theorem q_indexRow (hty : TyOk P ty) {t : Nat} {x i : Operand} (ho : o.op = .indexAddr t x i) {e : TyD} (he : elemD ty t = some e) {z : Nat} {xs : List (List AV)} {tk : Option Nat} (h : s.ev x = .row z xs tk)
    {k : IntKind} {n : Int} (hn : s.ev i = .v (.int k n)) (h0 : 0 ≤ n) (h1 : n < xs.length) (hz : z = e.size) : Quiet P c o s (.ref (xs.getD n.toNat []) 0) := by
  refine quiet_pure fun G L a w sm => ?_
  obtain ⟨u, hu, hue⟩ := elemD_info hty he
  have hlt : n.toNat < xs.length := by omega
  rcases Rep.row_inv (sm.eve h) with ⟨_, _, e0⟩ | ⟨g, off, cp, us, e1, hc, hzz, hr, hv⟩
  · subst e0; simp at h1; omega
  · have hpart := RepL.part hr hv (n.toNat * z) z
    rw [flatten_part hzz hlt] at hpart
    refine ⟨.pointer (some ⟨g, off + n.toNat * z, none⟩), ?_, RepT.of ?_⟩
    · simp only [execOp, ho, e1, sm.evv hn, Instr.indexAt, asIntOf, Sem.run_bind, Sem.run_pure, Result.andThen_ok, run_underlying hu]
      rw [if_pos ⟨h0, by omega⟩]
      simp only [Sem.run_bind, sizeOf_run hue, Result.andThen_ok, Sem.run_pure, Addr.add_lit, hz]
    · rw [List.getD_eq_getElem?_getD, List.getElem?_eq_getElem hlt]
      exact Rep.ref_mk (o := 0) hpart.1 hpart.2
theorem q_len {t : Nat} {x : Operand} {tt : Nat} (ho : o.op = .call { callee := .builtin .len, args := #[x], argTypes := #[t] }) (he : (elemD ty t).isSome = true) (hty : TyOk P ty) {z : Nat} {xs : List (List AV)} {tk : Option Nat} (h : s.ev x = .row z xs tk) (_ : tt = 0) : Quiet P c o s (.v (.int .i64 xs.length)) := by
  refine quiet_pure fun G L a w sm => ?_
  cases hed : elemD ty t with
  | none => rw [hed] at he; cases he
  | some e =>
    obtain ⟨u, hu, hue⟩ := elemD_info hty hed
    rcases Rep.row_inv (sm.eve h) with ⟨_, e1, e0⟩ | ⟨g, off, cp, us, e1, _⟩
    · subst e0
      exact ⟨_, by simp [execOp, ho, resolve, invoke, builtin, Builtin.len_, run_underlying hu, e1, goInt], RepT.of (.v _ rfl)⟩
    · exact ⟨_, by simp [execOp, ho, resolve, invoke, builtin, Builtin.len_, run_underlying hu, e1, goInt], RepT.of (.v _ rfl)⟩
end
end Go.Proofs.YtpnfkfbapfnboaaGreatDoor

