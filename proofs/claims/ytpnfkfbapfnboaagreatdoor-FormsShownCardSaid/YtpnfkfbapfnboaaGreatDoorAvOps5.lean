/- Quiet operations: parts of slices and strings, boxes that stay, literals, tuples, functions. -/
import Derived.Test.YtpnfkfbapfnboaaGreatDoorAvOps4
namespace Go.Proofs.YtpnfkfbapfnboaaGreatDoor
open Go
set_option linter.unusedVariables false
set_option linter.unusedSimpArgs false
def OptIs (v : Option Value) (n d : Int) : Prop := (v = none ∧ n = d) ∨ ∃ k, v = some (.int k n)
theorem bounds_run {P : Program} (b : Bool) (len cap : Nat) (lo hi : Option Value) (l h : Int) (hl : OptIs lo l 0) (hh : OptIs hi h len) (h0 : 0 ≤ l) (h1 : l ≤ h) (h2 : h ≤ cap) (w : World) :
    (Instr.sliceBounds b len cap lo hi none).run P w = .ok (l.toNat, h.toNat, cap) w := by
  have e1 : (h.toNat : Int) = h := Int.toNat_of_nonneg (by omega)
  have hB : ∀ (k : IntKind) (i : Int) (y : Nat) (code : Go.BoundsCode), 0 ≤ i → i ≤ y → (Instr.sliceBound (.int k i) y code).run P w = .ok i.toNat w := fun k i y code a c => by
    simp only [Instr.sliceBound, asIntOf, Sem.run_bind, Sem.run_pure, Result.andThen_ok]
    rw [if_pos ⟨a, c⟩]; rfl
  have hh' : (∃ k, hi = some (.int k h)) ∨ (hi = none ∧ h = len) := by rcases hh with ⟨a, c⟩ | a; exact .inr ⟨a, c⟩; exact .inl a
  have hl' : (∃ k, lo = some (.int k l)) ∨ (lo = none ∧ l = 0) := by rcases hl with ⟨a, c⟩ | a; exact .inr ⟨a, c⟩; exact .inl a
  rcases hh' with ⟨k, rfl⟩ | ⟨rfl, rfl⟩ <;> rcases hl' with ⟨k', rfl⟩ | ⟨rfl, rfl⟩
  · have hb := hB k' l h.toNat .sliceB h0 (by omega)
    have hc := hB k h cap (if b then .sliceAcap else .sliceAlen) (by omega) h2
    simp [Instr.sliceBounds, hc, hb]
  · have hc := hB k h cap (if b then .sliceAcap else .sliceAlen) (by omega) h2
    simp [Instr.sliceBounds, hc]
  · have hb := hB k' l len .sliceB h0 (by omega)
    simp [Instr.sliceBounds, hb]
  · simp [Instr.sliceBounds]
def St.bnd (s : St) (x : Option Operand) (d : Int) : Option Int :=
  match x with
  | none => some d
  | some x => match s.ev x with
    | .v (.int _ n) => some n
    | _ => none
theorem Sim.bnd {G : Gh} {L : List Nat} {s : St} {a : Act} {w : World} (h : Sim G L s a w) {x : Option Operand} {d n : Int} (e : s.bnd x d = some n) : OptIs (x.map a.eval) n d := by
  unfold St.bnd at e
  split at e
  · simp only [Option.some.injEq] at e; exact .inl ⟨rfl, e.symm⟩
  · split at e
    · rename_i y k m hm
      simp only [Option.some.injEq] at e; subst e
      exact .inr ⟨k, by simp [h.evv hm]⟩
    · cases e
def isStr (ty : Nat → Option TyD) (t : Nat) : Bool := match ty t with | some d => (match d.kind with | .str => true | _ => false) | none => false
theorem isStr_info {P : Program} {ty : Nat → Option TyD} (hty : TyOk P ty) {t : Nat} (h : isStr ty t = true) : P.underlying t = some .string := by
  unfold isStr at h
  split at h
  · rename_i d hd
    split at h
    · rename_i hk
      obtain ⟨i, D, z, _, hD, _, _, hkk, _⟩ := tyd_info (hty _ _ hd)
      rw [hk] at hkk
      cases D <;> simp only [kindOf, reduceCtorEq] at hkk
      exact hD
    · cases h
  · cases h
section
variable {P : Program} {c : Cx} {o : Oper} {s : St} {ty : Nat → Option TyD}
theorem q_sliceRow (hty : TyOk P ty) {t : Nat} {x : Operand} {lo hi : Option Operand} (ho : o.op = .slice t x lo hi none) {e : TyD} (he : elemD ty t = some e) {z : Nat} {xs : List (List AV)} {tk : Option Nat} (h : s.ev x = .row z xs tk)
    {l n : Int} (hl : s.bnd lo 0 = some l) (hh : s.bnd hi xs.length = some n) (h0 : 0 ≤ l) (h1 : l ≤ n) (h2 : n ≤ xs.length) (hz : z = e.size) : Quiet P c o s (.row z ((xs.drop l.toNat).take (n.toNat - l.toNat)) none) := by
  refine quiet_pure fun G L a w sm => ?_
  obtain ⟨u, hu, hue⟩ := elemD_info hty he
  have hlo := sm.bnd hl
  have hhi := sm.bnd hh
  have hlen : ((xs.drop l.toNat).take (n.toNat - l.toNat)).length = n.toNat - l.toNat := by simp; omega
  rcases Rep.row_inv (sm.eve h) with ⟨ad, e1, e0⟩ | ⟨g, off, cp, us, e1, hc, hzz, hr, hv⟩
  · subst e0
    simp only [List.length_nil, Int.natCast_zero] at h2 hhi
    have hb := bounds_run (P := P) true 0 0 _ _ l n hlo hhi h0 h1 h2 w
    refine ⟨.slice ad 0 0, ?_, RepT.of ?_⟩
    · have : l.toNat = 0 ∧ n.toNat = 0 := by omega
      cases ad <;> simp [execOp, ho, e1, Instr.sliceAt, Sem.run_bind, run_underlying hu, Result.andThen_ok, Instr.slice, hb, sizeOf_run hue, Sem.run_pure, this.1, this.2]
    · simpa using Rep.nilA z ad
  · have hb := bounds_run (P := P) true xs.length cp _ _ l n hlo hhi h0 h1 (by omega) w
    have hpart := RepL.part hr hv (l.toNat * z) ((n.toNat - l.toNat) * z)
    rw [← flatten_cut hzz] at hpart
    have hzz' : ∀ y ∈ ((xs.drop l.toNat).take (n.toNat - l.toNat)), y.length = z := fun y hy => hzz y (List.mem_of_mem_drop (List.mem_of_mem_take hy))
    refine ⟨.slice (if cp = l.toNat then some ⟨g, off, none⟩ else some ⟨g, off + l.toNat * z, none⟩) (n.toNat - l.toNat) (cp - l.toNat), ?_, RepT.of ?_⟩
    · simp only [execOp, ho, e1, Instr.sliceAt, Sem.run_bind, run_underlying hu, Result.andThen_ok, Instr.slice, Option.map_none, hb, sizeOf_run hue, Sem.run_pure, Option.map_some, Addr.add_lit, hz]
    · split
      · rename_i hcp
        have e0 : n.toNat - l.toNat = 0 := by omega
        have := Rep.row_mk (G := G) (z := z) (xs := []) (g := g) (o := off) (c := cp - l.toNat) (us := []) (by simp) (by simp) (RepL.nil G) (by simp)
        rw [e0, List.take_zero]; exact this
      · have := Rep.row_mk (c := cp - l.toNat) (by omega) hzz' hpart.1 hpart.2
        rw [hlen] at this; exact this
theorem q_sliceStr (hty : TyOk P ty) {t : Nat} {x : Operand} {lo hi : Option Operand} (ho : o.op = .slice t x lo hi none) (he : isStr ty t = true) {b : ByteArray} (h : s.ev x = .v (.string b))
    {l n : Int} (hl : s.bnd lo 0 = some l) (hh : s.bnd hi b.size = some n) (h0 : 0 ≤ l) (h1 : l ≤ n) (h2 : n ≤ b.size) : Quiet P c o s (.v (.string (b.extract l.toNat n.toNat))) := by
  refine quiet_pure fun G L a w sm => ?_
  have hu := isStr_info hty he
  have hb := bounds_run (P := P) false b.size b.size _ _ l n (sm.bnd hl) (sm.bnd hh) h0 h1 h2 w
  refine ⟨_, ?_, RepT.of (.v _ rfl)⟩
  simp only [execOp, ho, sm.evv h, Instr.sliceAt, Sem.run_bind, run_underlying hu, Result.andThen_ok, Instr.slice, Option.map_none, Option.isSome_none, Bool.false_eq_true, if_false, Sem.run_pure, hb]
theorem q_indexStr (hty : TyOk P ty) {t : Nat} {x i : Operand} (ho : o.op = .index t x i) (he : isStr ty t = true) {b : ByteArray} (h : s.ev x = .v (.string b)) {k : IntKind} {n : Int} (hn : s.ev i = .v (.int k n)) (h0 : 0 ≤ n) (h1 : n < b.size) :
    Quiet P c o s (.v (.int .u8 ((b.data.toList.getD n.toNat 0).toNat : Int))) := by
  refine quiet_pure fun G L a w sm => ?_
  have hu := isStr_info hty he
  have hlt : n.toNat < b.size := by omega
  have hlt' : n.toNat < b.data.toList.length := by simpa using hlt
  refine ⟨_, ?_, RepT.of (.v _ rfl)⟩
  have hg : b[n.toNat]? = some (b.data.toList.getD n.toNat 0) := by
    rw [List.getD_eq_getElem?_getD, List.getElem?_eq_getElem hlt', getElem?_pos b n.toNat hlt]
    rfl
  simp only [execOp, ho, sm.evv h, sm.evv hn, Instr.index, asIntOf, Sem.run_bind, Sem.run_pure, Result.andThen_ok, run_underlying hu, if_pos h0, hg]
theorem q_lenStr (hty : TyOk P ty) {t : Nat} {x : Operand} (ho : o.op = .call { callee := .builtin .len, args := #[x], argTypes := #[t] }) (he : isStr ty t = true) {b : ByteArray} (h : s.ev x = .v (.string b)) : Quiet P c o s (.v (.int .i64 b.size)) := by
  refine quiet_pure fun G L a w sm => ?_
  have hu := isStr_info hty he
  exact ⟨_, by simp [execOp, ho, resolve, invoke, builtin, Builtin.len_, run_underlying hu, sm.evv h, goInt], RepT.of (.v _ rfl)⟩
theorem q_bin (hty : TyOk P ty) {op : BinOp} {t t' : Nat} {x y : Operand} (ho : o.op = .binOp op t x y t') {K : AV → Prop} (h : vBin op (s.ev x) (s.ev y) K) {d : TyD} (hd : ty t = some d) (hk : ∀ b, s.ev x = .v (.bool b) → d.kind = .bool) (hk2 : ∀ cs, s.ev x = .agg cs → okEqs1 d.eqs cs = true) :
    ∀ a w, In c s a w → ∀ (Kc : Act → World → Prop) (Qc : Exit → Act → World → Prop), (∀ z v w', K z → In c (s.put o.dst z) (a.put o.dst v) w' → Kc (a.put o.dst v) w') → o.wp P a w Kc Qc := by
  rintro a w ⟨G, L, sm, hg, hf, hL⟩ Kc Qc hkk
  obtain ⟨r, hK, h1, hrun⟩ := vBin_sound h (o1 := x) (o2 := y) (sm.ev x) (sm.ev y) (hty _ _ hd) hk hk2 w
  unfold Oper.wp
  have : (execOp a.eval o).run P w = .ok (.value r) w := by
    simp only [execOp, ho]
    simp only [Sem.run_bind] at hrun ⊢
    rw [hrun]; rfl
  rw [this]
  exact hkk _ r w hK (In.put sm hg hf hL o.dst (RepT.of (.v r h1)))
theorem q_not {t : Nat} {x : Operand} (ho : o.op = .unOp .not t x) {b : Bool} (h : s.ev x = .v (.bool b)) : Quiet P c o s (.v (.bool (!b))) := by
  refine quiet_pure fun G L a w sm => ⟨.bool (!b), ?_, RepT.of (.v _ rfl)⟩
  simp only [execOp, ho, sm.evv h, Op.unary, Sem.run_bind, Sem.run_pure, Result.andThen_ok]
theorem q_neg {t : Nat} {x : Operand} (ho : o.op = .unOp .neg t x) {n : Int} (h : s.ev x = .v (.int .i64 n)) (h0 : -9223372036854775808 ≤ -n ∧ -n ≤ 9223372036854775807) : Quiet P c o s (.v (.int .i64 (-n))) := by
  refine quiet_pure fun G L a w sm => ⟨.int .i64 (-n), ?_, RepT.of (.v _ rfl)⟩
  simp only [execOp, ho, sm.evv h, Op.unary, Op.intArith, Sem.run_bind, Sem.run_pure, Result.andThen_ok]
  rw [show (0 : Int) - n = -n by omega, IntWalk.i64_in _ h0]
theorem q_extract {x : Operand} {i : Nat} (ho : o.op = .extract x i) {vs : List AV} (h : s.ev x = .tup vs) (hi : i < vs.length) : Quiet P c o s (vs.getD i .junk) := by
  refine quiet_pure fun G L a w sm => ?_
  have hr := sm.eve h
  generalize hq : a.eval x = q at hr
  cases hr with
  | tup _ us u hl hu hr =>
    refine ⟨u i, by simp [execOp, ho, hq, Instr.extract, hu i hi], RepT.of ?_⟩
    rw [List.getD_eq_getElem?_getD, List.getElem?_eq_getElem hi]
    exact hr i hi
theorem q_convInt (hty : TyOk P ty) {a b : Nat} {x : Operand} (ho : o.op = .convert a b x) {d e : TyD} (hd : ty a = some d) (he : ty b = some e) {k : IntKind} (hk : e.kind = .int k) {k' : IntKind} {n : Int} (h : s.ev x = .v (.int k' n)) {m : Int} (hm : m = k.wrap n) : Quiet P c o s (.v (.int k m)) := by
  refine quiet_pure fun G L ac w sm => ⟨.int k m, ?_, RepT.of (.v _ rfl)⟩
  obtain ⟨_, D, _, _, hD, _⟩ := tyd_info (hty _ _ hd)
  obtain ⟨_, E, _, _, hE, _, _, hkE, _⟩ := tyd_info (hty _ _ he)
  have hE' : E = .int k := by rw [hk] at hkE; cases E <;> simp_all [kindOf]
  subst hE'
  have hr := run_convert_int (P := P) w a b k' n (by simp [hD])
  have hik : P.intKind b = k := by simp [Program.intKind, hE]
  simp only [execOp, ho, sm.evv h, Sem.run_bind]
  have := hr (by simp [hik, hE])
  rw [this, hik, hm]; rfl
end
end Go.Proofs.YtpnfkfbapfnboaaGreatDoor

