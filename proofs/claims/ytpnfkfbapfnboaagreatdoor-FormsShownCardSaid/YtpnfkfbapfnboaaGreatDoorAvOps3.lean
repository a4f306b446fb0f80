/- Quiet operations on numbers, strings, slices; what makes memory that stays. -/
import Derived.Test.YtpnfkfbapfnboaaGreatDoorAvOps2
import Derived.Laws.Shifts
namespace Go.Proofs.YtpnfkfbapfnboaaGreatDoor
open Go
set_option linter.unusedVariables false
set_option linter.unusedSimpArgs false
def arith (k : IntKind) (r : Int) (K : AV → Prop) : Prop :=
  match k with
  | .i64 => (-9223372036854775808 ≤ r ∧ r ≤ 9223372036854775807) ∧ K (.v (.int .i64 r))
  | k => K (.v (.int k (k.wrap r)))
def iBin (op : BinOp) (k : IntKind) (a b : Int) (K : AV → Prop) : Prop :=
  match op with
  | .add => arith k (a + b) K
  | .sub => arith k (a - b) K
  | .mul => arith k (a * b) K
  | .quo => b ≠ 0 ∧ arith k (a.tdiv b) K
  | .rem => b ≠ 0 ∧ K (.v (.int k (a.tmod b)))
  | .and => K (.v (.int k (bits .and k a b)))
  | .or => K (.v (.int k (bits .or k a b)))
  | .xor => K (.v (.int k (bits .xor k a b)))
  | .andNot => K (.v (.int k (bits .andNot k a b)))
  | .shr => 0 ≤ b ∧ K (.v (.int k (a / 2 ^ min b.toNat k.bits)))
  | .eql => K (.v (.bool (a == b)))
  | .neq => K (.v (.bool (a != b)))
  | .lss => K (.v (.bool (decide (a < b))))
  | .leq => K (.v (.bool (decide (a ≤ b))))
  | .gtr => K (.v (.bool (decide (b < a))))
  | .geq => K (.v (.bool (decide (b ≤ a))))
  | _ => False
def sBin (op : BinOp) (a b : ByteArray) (K : AV → Prop) : Prop :=
  match op with
  | .add => a.size + b.size ≤ 9223372036854775807 ∧ K (.v (.string (a ++ b)))
  | .eql => K (.v (.bool (a == b)))
  | .neq => K (.v (.bool (!(a == b))))
  | .lss => K (.v (.bool (Op.bytesLess a.toList b.toList)))
  | .leq => K (.v (.bool (Op.bytesLess a.toList b.toList || (a == b))))
  | .gtr => K (.v (.bool (!(Op.bytesLess a.toList b.toList || (a == b)))))
  | .geq => K (.v (.bool (!Op.bytesLess a.toList b.toList)))
  | _ => False
def nBin (op : BinOp) (b : Bool) (K : AV → Prop) : Prop :=
  match op with
  | .eql => K (.v (.bool b))
  | .neq => K (.v (.bool (!b)))
  | _ => False
def okEqs : List EK → List AV → Bool
  | [], [] => true
  | .i :: l, .v (.int _ _) :: cs => okEqs l cs
  | .s :: l, .v (.string _) :: cs => okEqs l cs
  | .b :: l, .v (.bool _) :: cs => okEqs l cs
  | _, _ => false
def okEqs1 : List EK → List AV → Bool
  | [], _ => false
  | a :: l, cs => okEqs (a :: l) cs
def eqL : List AV → List AV → Option Bool
  | [], [] => some true
  | .v (.int k a) :: xs, .v (.int k' b) :: ys => if k = k' then (eqL xs ys).map fun r => (a == b) && r else none
  | .v (.string a) :: xs, .v (.string b) :: ys => (eqL xs ys).map fun r => (a == b) && r
  | .v (.bool a) :: xs, .v (.bool b) :: ys => (eqL xs ys).map fun r => (a == b) && r
  | _, _ => none
theorem part_one {P : Program} {t : Nat} {D : TypeDesc} (h : P.underlying t = some D) (hD : (∃ k, D = .int k) ∨ D = .string ∨ D = .bool) {xs : Array Value} {i : Nat} {x : Value} (hx : xs[i]? = some x) (w : World) : (part t xs i).run P w = .ok x w := by
  have ha : (isAgg t).run P w = .ok false w := by
    unfold isAgg
    rw [Sem.run_bind, run_underlying h w]
    rcases hD with ⟨k, rfl⟩ | rfl | rfl <;> rfl
  unfold part
  rw [Sem.run_bind, ha]
  simp only [Result.andThen_ok, Bool.false_eq_true, if_false, hx, Sem.run_pure]
theorem eqFields_sound {P : Program} (d : Nat) (xs ys : Array Value) (w : World) : ∀ (fs : List Field) (i : Nat) (l : List EK) (cs ds : List AV) (b : Bool), eqsF P i fs = some l → okEqs l cs = true → eqL cs ds = some b →
    (∀ j x, cs[j]? = some (.v x) → xs[i + j]? = some x) → (∀ j x, ds[j]? = some (.v x) → ys[i + j]? = some x) → (Op.eqFields (d + 1) xs ys fs).run P w = .ok b w
  | [], i, l, cs, ds, b, hl, hc, he, _, _ => by
    simp only [eqsF, Option.some.injEq] at hl
    subst hl
    cases cs with
    | nil =>
      cases ds with
      | nil => simp only [eqL, Option.some.injEq] at he; subst he; rfl
      | cons => simp [eqL] at he
    | cons => simp [okEqs] at hc
  | f :: fs, i, l, cs, ds, b, hl, hc, he, hx, hy => by
    rw [eqsF] at hl
    split at hl
    · rename_i hn
      obtain ⟨hn1, hn2⟩ := hn
      have next : ∀ (cs' ds' : List AV) (u v : AV), cs = u :: cs' → ds = v :: ds' → ∀ l' b', eqsF P (i + 1) fs = some l' → okEqs l' cs' = true → eqL cs' ds' = some b' → (Op.eqFields (d + 1) xs ys fs).run P w = .ok b' w := by
        intro cs' ds' u v e1 e2 l' b' h1 h2 h3
        refine eqFields_sound d xs ys w fs (i + 1) l' cs' ds' b' h1 h2 h3 (fun j x hj => ?_) (fun j x hj => ?_)
        · rw [show i + 1 + j = i + (j + 1) by omega]; exact hx (j + 1) x (by rw [e1]; simpa using hj)
        · rw [show i + 1 + j = i + (j + 1) by omega]; exact hy (j + 1) x (by rw [e2]; simpa using hj)
      have fin : ∀ (D : TypeDesc), P.underlying f.type = some D → ((∃ k, D = .int k) ∨ D = .string ∨ D = .bool) → ∀ (x y : Value) (cs' ds' : List AV) (r1 b' : Bool), cs = .v x :: cs' → ds = .v y :: ds' → (Op.equalIn (d + 1) f.type x y).run P w = .ok r1 w → (Op.eqFields (d + 1) xs ys fs).run P w = .ok b' w → b = (r1 && b') → (Op.eqFields (d + 1) xs ys (f :: fs)).run P w = .ok b w := by
        intro D hD hDk x y cs' ds' r1 b' e1 e2 h1 h2 hb
        have p1 := part_one hD hDk (xs := xs) (i := i) (x := x) (by have := hx 0 x (by rw [e1]; rfl); simpa using this) w
        have p2 := part_one hD hDk (xs := ys) (i := i) (x := y) (by have := hy 0 y (by rw [e2]; rfl); simpa using this) w
        rw [← hn2] at p1 p2
        rw [Op.eqFields, if_pos hn1]
        simp only [Sem.run_bind, p1, p2, h1, Result.andThen_ok]
        subst hb
        cases r1
        · simp only [Bool.not_false, if_true, Sem.run_pure, Bool.false_and]
        · simp only [Bool.not_true, Bool.false_eq_true, if_false, h2, Bool.true_and]
      split at hl
      · rename_i k hD
        cases hq : eqsF P (i + 1) fs with
        | none => rw [hq] at hl; simp at hl
        | some l' =>
          rw [hq] at hl
          simp only [Option.map_some, Option.some.injEq] at hl
          subst hl
          match cs, ds, hc, he with
          | .v (.int k1 a) :: cs', .v (.int k2 a2) :: ds', hc, he =>
            simp only [okEqs] at hc
            simp only [eqL] at he
            split at he
            · rename_i hk
              subst hk
              cases h3 : eqL cs' ds' with
              | none => rw [h3] at he; simp at he
              | some b' =>
                rw [h3] at he
                simp only [Option.map_some, Option.some.injEq] at he
                exact fin _ hD (.inl ⟨_, rfl⟩) _ _ cs' ds' _ b' rfl rfl (run_equalIn_int w d f.type k1 _ a a2 hD) (next cs' ds' _ _ rfl rfl l' b' hq hc h3) he.symm
            · cases he
      · rename_i hD
        cases hq : eqsF P (i + 1) fs with
        | none => rw [hq] at hl; simp at hl
        | some l' =>
          rw [hq] at hl
          simp only [Option.map_some, Option.some.injEq] at hl
          subst hl
          match cs, ds, hc, he with
          | .v (.string a) :: cs', .v (.string a2) :: ds', hc, he =>
            simp only [okEqs] at hc
            simp only [eqL] at he
            cases h3 : eqL cs' ds' with
            | none => rw [h3] at he; simp at he
            | some b' =>
              rw [h3] at he
              simp only [Option.map_some, Option.some.injEq] at he
              exact fin _ hD (.inr (.inl rfl)) _ _ cs' ds' _ b' rfl rfl (by rw [run_equalIn_string w d f.type a a2 hD, ← beq_toListBytes]) (next cs' ds' _ _ rfl rfl l' b' hq hc h3) he.symm
      · rename_i hD
        cases hq : eqsF P (i + 1) fs with
        | none => rw [hq] at hl; simp at hl
        | some l' =>
          rw [hq] at hl
          simp only [Option.map_some, Option.some.injEq] at hl
          subst hl
          match cs, ds, hc, he with
          | .v (.bool a) :: cs', .v (.bool a2) :: ds', hc, he =>
            simp only [okEqs] at hc
            simp only [eqL] at he
            cases h3 : eqL cs' ds' with
            | none => rw [h3] at he; simp at he
            | some b' =>
              rw [h3] at he
              simp only [Option.map_some, Option.some.injEq] at he
              exact fin _ hD (.inr (.inr rfl)) _ _ cs' ds' _ b' rfl rfl (run_equalIn_bool' w d f.type a a2 hD) (next cs' ds' _ _ rfl rfl l' b' hq hc h3) he.symm
      · cases hl
    · cases hl
theorem struct_eq_sound {P : Program} {t : Nat} {d : TyD} (hd : tyd P t = some d) {cs ds : List AV} (hc : okEqs1 d.eqs cs = true) {b : Bool} (he : eqL cs ds = some b) {xs ys : Array Value} (hx : ∀ (j : Nat) (x : Value), cs[j]? = some (AV.v x) → xs[j]? = some x) (hy : ∀ (j : Nat) (x : Value), ds[j]? = some (AV.v x) → ys[j]? = some x) (o1 o2 : Operand) (w : World) :
    ((do eqGuard .eql t o1 o2 (.agg xs) (.agg ys); binOp .eql t (.agg xs) (.agg ys) : Sem Value).run P w) = .ok (.bool b) w ∧ ((do eqGuard .neq t o1 o2 (.agg xs) (.agg ys); binOp .neq t (.agg xs) (.agg ys) : Sem Value).run P w) = .ok (.bool (!b)) w := by
  obtain ⟨D, hD, hq⟩ := tyd_eqs hd
  rw [hq] at hc
  unfold eqsOf at hc
  split at hc
  · rename_i fs
    split at hc
    · simp [okEqs1] at hc
    · rename_i hs
      simp only [Bool.or_eq_true, not_or, Bool.not_eq_true] at hs
      cases hf : eqsF P 0 fs.toList with
      | none => rw [hf] at hc; simp [okEqs1] at hc
      | some l =>
        rw [hf] at hc
        simp only [Option.getD_some] at hc
        have hc2 : okEqs l cs = true := by
          cases l with
          | nil => simp [okEqs1] at hc
          | cons a l => exact hc
        have hfs : P.fieldsOf t = fs := by simp [Program.fieldsOf, hD]
        have hr := eqFields_sound 9998 xs ys w fs.toList 0 l cs ds b hf hc2 he (fun j x h => by rw [Nat.zero_add]; exact hx j x h) (fun j x h => by rw [Nat.zero_add]; exact hy j x h)
        have he2 : (Op.equalIn 10000 t (.agg xs) (.agg ys)).run P w = .ok b w := by
          rw [run_equalIn_struct w 9999 t xs ys (by rw [hfs]; exact hD) hs.1, hfs]; exact hr
        constructor
        · rw [Sem.run_bind, run_eqGuard_agg w _ t o1 o2 xs ys hs.2]
          simp only [Result.andThen_ok, run_eql_struct, he2]
        · rw [Sem.run_bind, run_eqGuard_agg w _ t o1 o2 xs ys hs.2]
          simp only [Result.andThen_ok, run_neq_struct, he2]
  · simp [okEqs1] at hc
def vBin (op : BinOp) (x y : AV) (K : AV → Prop) : Prop :=
  match x, y with
  | .v (.int k a), .v (.int k' b) => k = k' ∧ iBin op k a b K
  | .v (.string a), .v (.string b) => sBin op a b K
  | .v (.bool a), .v (.bool b) => match op with
    | .eql => K (.v (.bool (a == b)))
    | .neq => K (.v (.bool (!(a == b))))
    | _ => False
  | .agg cs, .agg ds => match eqL cs ds with
    | some b => nBin op b K
    | none => False
  | _, _ => False
theorem arith_sound {k : IntKind} {r : Int} {K : AV → Prop} (h : arith k r K) : K (.v (.int k (k.wrap r))) := by
  unfold arith at h
  split at h
  · rw [IntWalk.i64_in r h.1]; exact h.2
  · exact h
theorem vBin_sound {P : Program} {op : BinOp} {x y : AV} {K : AV → Prop} (h : vBin op x y K) {t : TypeId} {o1 o2 : Operand} {u v : Value} {G : Gh} {L : List Nat} (hx : RepT G L x u) (hy : RepT G L y v) {d : TyD} (hd : tyd P t = some d) (hk : ∀ b, x = .v (.bool b) → d.kind = .bool) (hk2 : ∀ cs, x = .agg cs → okEqs1 d.eqs cs = true) (w : World) :
    ∃ r, K (.v r) ∧ r.oneCell' = true ∧ ((do eqGuard op t o1 o2 u v; binOp op t u v : Sem Value).run P w) = .ok r w := by
  unfold vBin at h
  split at h
  · rename_i k a k' b
    obtain ⟨rfl, h⟩ := h
    cases hx.v_inv; cases hy.v_inv
    unfold iBin at h
    simp only [eqGuard_at_int, pure_bind]
    cases op <;> simp only at h
    case add => exact ⟨_, arith_sound h, rfl, by rw [binOp_add]; rfl⟩
    case sub => exact ⟨_, arith_sound h, rfl, by rw [binOp_sub]; rfl⟩
    case mul => exact ⟨_, arith_sound h, rfl, by rw [binOp_mul]; rfl⟩
    case quo => exact ⟨_, arith_sound h.2, rfl, by rw [binOp_quo, Op.intDiv, if_neg h.1]; rfl⟩
    case rem => exact ⟨_, h.2, rfl, by rw [binOp_rem, Op.intDiv, if_neg h.1]; rfl⟩
    case and => exact ⟨_, h, rfl, by rw [binOp_and, intBits_and]; rfl⟩
    case or => exact ⟨_, h, rfl, by rw [binOp_or, intBits_or]; rfl⟩
    case xor => exact ⟨_, h, rfl, by rw [binOp_xor, intBits_xor]; rfl⟩
    case andNot => exact ⟨_, h, rfl, by rw [binOp_andNot, intBits_andNot]; rfl⟩
    case shr => exact ⟨_, h.2, rfl, by rw [binOp_shr, shift_shr_any _ _ _ _ h.1]; rfl⟩
    case eql => exact ⟨_, h, rfl, by rw [binOp_eql]; rfl⟩
    case neq => exact ⟨_, h, rfl, by rw [binOp_neq]; rfl⟩
    case lss => exact ⟨_, h, rfl, by rw [binOp_lss]; rfl⟩
    case leq => exact ⟨_, h, rfl, by rw [binOp_leq]; rfl⟩
    case gtr => exact ⟨_, h, rfl, by rw [binOp_gtr]; rfl⟩
    case geq => exact ⟨_, h, rfl, by rw [binOp_geq]; rfl⟩
  · rename_i a b
    cases hx.v_inv; cases hy.v_inv
    unfold sBin at h
    simp only [eqGuard_at_string, pure_bind]
    have hb := beq_toListBytes a b
    cases op <;> simp only at h
    case add => exact ⟨_, h.2, rfl, by simp only [binOp]; rw [run_string_add_if, if_neg (by omega)]⟩
    all_goals first | exact h.elim | (rw [hb] at h; exact ⟨_, h, rfl, rfl⟩) | exact ⟨_, h, rfl, rfl⟩
  · rename_i a b
    cases hx.v_inv; cases hy.v_inv
    have hkb := hk a rfl
    simp only [eqGuard_at_bool, pure_bind]
    obtain ⟨i, D, z, _, hD2, _, _, hk2, _⟩ := tyd_info hd
    have hDb : D = .bool := by rw [hkb] at hk2; cases D <;> simp_all [kindOf]
    subst hDb
    have hr := run_equalIn_bool' (P := P) w 9999 t a b hD2
    cases op <;> simp only at h
    case eql => exact ⟨_, h, rfl, by simp only [binOp, Op.equal, Op.maxDepth, Sem.run_bind, hr, Result.andThen_ok, Sem.run_pure]⟩
    case neq => exact ⟨_, h, rfl, by simp only [binOp, Op.equal, Op.maxDepth, Sem.run_bind, hr, Result.andThen_ok, Sem.run_pure]⟩
    all_goals exact h.elim
  · rename_i cs ds
    split at h
    · rename_i b hb
      have hok := hk2 cs rfl
      have hx' : Rep G (.agg cs) u := hx
      have hy' : Rep G (.agg ds) v := hy
      obtain ⟨xs, rfl, hxs⟩ := RepL.of_agg hx'
      obtain ⟨ys, rfl, hys⟩ := RepL.of_agg hy'
      have cell : ∀ {zs : List AV} {vs : List Value}, RepL G zs vs → ∀ (j : Nat) (x : Value), zs[j]? = some (AV.v x) → vs.toArray[j]? = some x := fun {zs vs} hr j x hj => by
        obtain ⟨hjl, hje⟩ := List.getElem?_eq_some_iff.1 hj
        have hjv : j < vs.length := by have := hr.1; omega
        have h9 := (hr.2 j hjl hjv).1
        rw [hje] at h9
        rw [List.getElem?_toArray, List.getElem?_eq_getElem hjv]
        generalize vs[j] = y at h9
        cases h9
        rfl
      have hs := struct_eq_sound hd hok hb (cell hxs) (cell hys) o1 o2 w
      unfold nBin at h
      split at h
      · exact ⟨_, h, rfl, hs.1⟩
      · exact ⟨_, h, rfl, hs.2⟩
      · exact h.elim
    · exact h.elim
  · exact h.elim
end Go.Proofs.YtpnfkfbapfnboaaGreatDoor

