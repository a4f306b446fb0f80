/- What an operation does, as one function of what is told. -/
import Derived.Test.YtpnfkfbapfnboaaGreatDoorAvCut
import Derived.Test.YtpnfkfbapfnboaaGreatDoorAvRng
import Derived.Test.YtpnfkfbapfnboaaGreatDoorAvStr
import Derived.LaidEql
namespace Go.Proofs.YtpnfkfbapfnboaaGreatDoor
open Go
set_option linter.unusedVariables false
set_option linter.unusedSimpArgs false
def bndE (ev : Operand → AV) (x : Option Operand) (d : Int) : Option Int :=
  match x with
  | none => some d
  | some x => match ev x with
    | .v (.int _ n) => some n
    | _ => none
def boolOk (d : TyD) : AV → Bool
  | .v (.bool _) => match d.kind with | .bool => true | _ => false
  | .agg cs => okEqs1 d.eqs cs
  | _ => true
def convI (k : IntKind) (n : Int) (K : AV → Prop) : Prop :=
  match k with
  | .i64 => (-9223372036854775808 ≤ n ∧ n ≤ 9223372036854775807) ∧ K (.v (.int .i64 n))
  | k => K (.v (.int k (k.wrap n)))
def allTy (ty : Nat → Option TyD) (d : TyD) : Bool := match d.kind with | .struct fs => fs.all (fun f => (ty f.2).isSome) | _ => false
def storeE (d : TyD) (lo : List (List AV)) (h : Hp) (ds : List AV) (K : List (List AV) → Hp → Prop) : AV → Prop
  | .loc j off => match lo[j]? with
    | some cs => off + d.size ≤ cs.length ∧ K (lo.set j (splice cs off ds)) h
    | none => False
  | .ptr i off => match h.H i with
    | some (.cells cs) => off + d.size ≤ cs.length ∧ K lo { h with H := upd h.H i (some (.cells (splice cs off ds))) }
    | some (.obj E cs) => off + d.size ≤ cs.length ∧ K lo { h with H := upd h.H i (some (.obj E (splice cs off ds))) }
    | _ => False
  | .eptr k n i f => match h.T k with
    | some (.cont z xs) => (xs.length = n ∧ i < n ∧ f + d.size ≤ z) ∧ K lo { h with T := upd h.T k (some (.cont z (xs.set i (splice (xs.getD i []) f ds)))) }
    | _ => False
  | .ref cs off => match cs[off]?, ds with
    | some (.v a), [.v b] => ((d.size = 1 ∧ isB8 b = false) ∧ a = b) ∧ K lo h
    | _, _ => False
  | _ => False
def newE (h : Hp) (cs : List AV) (K : Hp → AV → Prop) : Prop := ∀ i, h.H i = none → K { h with H := upd h.H i (some (.cells cs)) } (.ptr i 0)
def sliceE (ty : Nat → Option TyD) (t : Nat) (l n : Option Operand) (ev : Operand → AV) (K : AV → Prop) : AV → Prop
  | .row z xs _ => match elemD ty t, bndE ev l 0, bndE ev n xs.length with
    | some e, some l, some n => (0 ≤ l ∧ l ≤ n ∧ n ≤ xs.length ∧ z = e.size) ∧ K (.row z ((xs.drop l.toNat).take (n.toNat - l.toNat)) none)
    | _, _, _ => False
  | .v (.string b) => match bndE ev l 0, bndE ev n b.size with
    | some l, some n => (isStr ty t = true ∧ 0 ≤ l ∧ l ≤ n ∧ n ≤ b.size) ∧ K (.v (.string (b.extract l.toNat n.toNat)))
    | _, _ => False
  | _ => False
def cutE (ty : Nat → Option TyD) (t : Nat) (l n : Option Operand) (ev : Operand → AV) (h : Hp) (K : Hp → AV → Prop) : AV → Prop
  | .arr z k m => match elemD ty t, bndE ev l 0, bndE ev n m, h.T k with
    | some _, some l, some j, some (.cont z' xs) => (z' = z ∧ xs.length = m ∧ l = 0 ∧ 0 ≤ j ∧ j ≤ m) ∧ ∀ q, h.T q = none → K { h with T := upd (upd h.T k none) q (some (.cont z (xs.take j.toNat))) } (.arr z q j.toNat)
    | _, _, _, _ => False
  | _ => False
def appE (e : TyD) (h : Hp) (K : Hp → AV → Prop) (y : AV) : AV → Prop
  | .row z xs (some k) => match rowOf y with
    | some (zy, ys) => (z = e.size ∧ h.T k = some (.tail xs.length) ∧ (zy = e.size ∨ ys = []) ∧ 0 < e.size ∧ e.zero.length = e.size) ∧ ((xs.length + ys.length) * e.bytes ≤ 140737488355328 ∧ xs.length + ys.length ≤ 9223372036854775807) ∧
        K { h with T := upd h.T k (some (.tail (xs.length + ys.length))) } (.row z (xs ++ ys) (some k))
    | none => False
  | .arr z k n => match rowX h.T y, h.T k with
    | some (zy, ys), some (.cont z' xs) => (z = e.size ∧ z' = z ∧ xs.length = n ∧ (zy = e.size ∨ ys = []) ∧ 0 < e.size ∧ e.zero.length = e.size) ∧ ((xs.length + ys.length) * e.bytes ≤ 140737488355328 ∧ xs.length + ys.length ≤ 9223372036854775807) ∧
        K { h with T := upd h.T k (some (.cont z (xs ++ ys))) } (.arr z k (n + ys.length))
    | _, _ => False
  | .v (.slice none 0 0) => match rowOf y with
    | some (zy, ys) => (zy = e.size ∧ 0 < e.size ∧ e.zero.length = e.size) ∧ (ys.length * e.bytes ≤ 140737488355328 ∧ ys.length ≤ 9223372036854775807) ∧
        ∀ k, h.T k = none → K { h with T := upd h.T k (some (.tail ys.length)) } (.row e.size ys (some k))
    | none => False
  | _ => False
def appS (eI : Option Nat) (e : TyD) (h : Hp) (K : Hp → AV → Prop) (y : AV) : AV → Prop
  | .arr z k n => match y, h.T k with
    | .v (.string b), some (.cont z' xs) => (z = 1 ∧ z' = 1 ∧ e.size = 1 ∧ e.bytes = 1 ∧ e.zero.length = 1) ∧ (xs.length = n ∧ xs.length + b.size ≤ 140737488355328) ∧ K { h with T := upd h.T k (some (.cont 1 (xs ++ strRow b))) } (.arr 1 k (n + b.size))
    | .v (.string b), some (.buf E xs) => (z = 1 ∧ eI = some E ∧ e.size = 1 ∧ e.bytes = 1 ∧ e.zero.length = 1) ∧ (xs.length = n ∧ xs.length + b.size ≤ 140737488355328) ∧ K { h with T := upd h.T k (some (.buf E (xs ++ strRow b))) } (.arr 1 k (n + b.size))
    | _, _ => False
  | _ => False
def lenE (ty : Nat → Option TyD) (t : Nat) (K : AV → Prop) : AV → Prop
  | .row _ xs _ => (elemD ty t).isSome = true ∧ K (.v (.int .i64 xs.length))
  | .v (.string b) => isStr ty t = true ∧ K (.v (.int .i64 b.size))
  | .arr _ _ n => (elemD ty t).isSome = true ∧ K (.v (.int .i64 n))
  | .v (.slice none 0 0) => (elemD ty t).isSome = true ∧ K (.v (.int .i64 0))
  | _ => False
def minE (mx : Bool) (K : AV → Prop) : AV → AV → Prop
  | .v (.int k m), .v (.int k' n) => k = k' ∧ K (.v (.int k (bif mx then max m n else min m n)))
  | _, _ => False
def biE (ty : Nat → Option TyD) (b : Builtin) (ev : Operand → AV) (h : Hp) (K : Hp → AV → Prop) : List Operand → List Nat → Prop
  | [x], [t] => match b with
    | .len => lenE ty t (K h) (ev x)
    | _ => False
  | [x, y], [t, u] => match b with
    | .append => if t = u then match elemD ty t with
      | some e => appE e h K (ev y) (ev x)
      | none => False
      else isStr ty u = true ∧ match elemD ty t with
      | some e => appS (elemI ty t) e h K (ev y) (ev x)
      | none => False
    | .min => minE false (K h) (ev x) (ev y)
    | .max => minE true (K h) (ev x) (ev y)
    | _ => False
  | _, _ => False
def binE (d : TyD) (op : BinOp) (K : AV → Prop) (x y : AV) : Prop :=
  match nilOf d.kind x, nilOf d.kind y with
  | some a, some b => (a || b) = true ∧ nBin op (a && b) K
  | _, _ => boolOk d x = true ∧ vBin op x y K
def cellO : Option AO → Bool
  | some (.cells _) | some (.obj _ _) => true
  | _ => false
def ptrZ (ty : Nat → Option TyD) (d : TyD) : Prop := match d.kind with
  | .ptr e => match ty e with
    | some d' => d'.size ≠ 0
    | none => False
  | _ => False
def ptrS (h : Hp) : AV → AV → Prop
  | .ptr i 0, .ptr j 0 => cellO (h.H i) = true ∧ cellO (h.H j) = true
  | _, _ => False
def ptrV : AV → AV → Bool
  | .ptr i 0, .ptr j 0 => i == j
  | _, _ => false
def arrNil (d : TyD) (op : BinOp) : AV → AV → Option Nat
  | .arr _ _ n, .v (.slice none _ _) => match d.kind, op with
    | .slice _, .eql => some n
    | _, _ => none
  | _, _ => none
def ptrE (ty : Nat → Option TyD) (d : TyD) (h : Hp) (op : BinOp) (K : AV → Prop) (x y : AV) : Prop := match arrNil d op x y with
  | some n => (n = 0 → K (.v (.bool true))) ∧ K (.v (.bool false))
  | none => (ptrZ ty d ∧ ptrS h x y) ∧ nBin op (ptrV x y) K
def fnE (f : Nat) : List AV → List AV → AV
  | [], cs => .fn f cs
  | fst, _ => .bfn f fst
def rangeE (h : Hp) (K : Hp → AV → Prop) : AV → Prop
  | .map m => match h.H m with
    | some (.map es) => ∀ i born clock, h.H i = none → (born.length = es.length ∧ born.Nodup ∧ (es.map (·.1)).Nodup ∧ ∀ b ∈ born, b < clock) → K { h with H := upd (upd h.H m (some (.mapS es born clock))) i (some (.iter m clock #[] clock)) } (.ptr i 0)
    | _ => False
  | _ => False
def nextE (h : Hp) (K : Hp → AV → Prop) : AV → Prop
  | .ptr i 0 => match h.H i with
    | some (.iter m since seen c0) => match h.H m with
      | some (.mapS es born clock) => ((∀ b ∈ born, b < since) ∧ since ≤ c0) ∧ ((∀ b ∈ born, seen.contains b = true) → K h (.tup [.v (.bool false)])) ∧
          ∀ j, j < es.length ∧ seen.contains (born.getD j 0) = false → K { h with H := upd h.H i (some (.iter m since (seen.push (born.getD j 0)) clock)) } (.tup [.v (.bool true), .v (.string (es.getD j default).1), (es.getD j default).2])
      | _ => False
    | _ => False
  | _ => False
def entryE (h : Hp) (K : AV → Prop) : AV → Prop
  | .ptr i 0 => match h.H i with
    | some (.iter m since seen c0) => match h.H m with
      | some (.mapS es born clock) => ∃ j, (j < es.length ∧ seen.back? = some (born.getD j 0) ∧ c0 = clock) ∧ K (.tup [.v (.string (es.getD j default).1), (es.getD j default).2])
      | _ => False
    | _ => False
  | _ => False
def vEff (P : Program) (ty : Nat → Option TyD) (md : Nat) (op : Op) (ev : Operand → AV) (lo : List (List AV)) (h : Hp) (K : List (List AV) → Hp → AV → Prop) : Prop :=
  match op with
  | .move x | .assign x => K lo h (ev x)
  | .pick p x y => match ev p with
    | .v (.bool b) => K lo h (bif b then ev x else ev y)
    | _ => False
  | .nilCheck x => match ev x with
    | .fn f cs => K lo h (.fn f cs)
    | a => a.isAddr = true ∧ K lo h a
  | .load t x => match ty t, cellsAt lo h (ev x) with
    | some d, some (cs, off) => ldOk d cs off ∧ K lo h (ld d cs off)
    | _, _ => False
  | .store t x y => match ty t, (ev y).cellsB with
    | some d, some ds => ds.length = d.size ∧ storeE d lo h ds (fun lo' h' => K lo' h' .junk) (ev x)
    | _, _ => False
  | .alloc t => match ty t with
    | some d => match md with
      | 2 => newE h d.zero (K lo)
      | _ => K (lo ++ [d.zero]) h (.loc lo.length 0)
    | none => False
  | .box _ x => match (ev x).cellsB with
    | some cs => match md with
      | 0 => K lo h (.ref cs 0)
      | 1 => K (lo ++ [cs]) h (.loc lo.length 0)
      | _ => newE h cs (K lo)
    | none => False
  | .build t parts => match structD ty t with
    | some d => match fillA (places ty t) d.zero (parts.toList.map fun p => (p.1, ev p.2)) with
      | some ds => allTy ty d = true ∧ K lo h (.agg ds)
      | none => False
    | none => match arrD ty t with
      | some (d, _, e) => match fillA (fun i => some (i * e.size, e.size)) d.zero (parts.toList.map fun p => (p.1, ev p.2)) with
        | some ds => K lo h (.agg ds)
        | none => False
      | none => False
  | .buildSlice t n parts => match elemD ty t with
    | some e => if md = 1 ∧ n = 0 then parts.toList.map (·.1) = List.range 0 ∧ ∀ k, h.T k = none → K lo { h with T := upd h.T k (some (.cont e.size [])) } (.arr e.size k 0) else
      if md = 2 ∧ n = 0 then parts.toList.map (·.1) = List.range 0 ∧ ∀ k, h.T k = none → K lo { h with T := upd h.T k (some (.tail 0)) } (.row e.size [] (some k)) else
      match litRow e.size (parts.toList.map fun p => ev p.2) with
      | some xs => (parts.toList.map (·.1) = List.range n ∧ n * e.size ≤ 16777216 ∧ e.size ≠ 0 ∧ e.zero.length = e.size) ∧ if md = 1 then ∀ k, h.T k = none → K lo { h with T := upd h.T k (some (.cont e.size xs)) } (.arr e.size k xs.length) else K lo h (.row e.size xs none)
      | none => False
    | none => False
  | .makeSlice t x y => match elemD ty t, ev x, ev y with
    | some e, .v (.int _ n), .v (.int _ m) => (0 ≤ n ∧ n = m ∧ 0 < e.size ∧ e.zero.length = e.size) ∧ (n * e.bytes ≤ 140737488355328 ∧ n ≤ 9223372036854775807) ∧ ∀ k, h.T k = none → K lo { h with T := upd h.T k (some (.cont e.size (List.replicate n.toNat e.zero))) } (.arr e.size k n.toNat)
    | _, _, _ => False
  | .makeMap _ none => ∀ i, h.H i = none → K lo { h with H := upd h.H i (some (.map [])) } (.map i)
  | .lookup t x k ok => match mapD ty t with
    | some ed => lookE ed h ok (K lo h) (ev x) (ev k)
    | none => False
  | .mapUpdate t m k x | .insert t m k x => match mapD ty t with
    | some _ => updE h (fun h' => K lo h' .junk) (ev x) (ev m) (ev k)
    | none => False
  | .range t x => match mapD ty t with
    | some _ => rangeE h (K lo) (ev x)
    | none => False
  | .next it b => match b with
    | false => nextE h (K lo) (ev it)
    | true => False
  | .entry it => entryE h (K lo h) (ev it)
  | .binOp b t x y _ => match ty t with
    | some d => match md with
      | 3 => ptrE ty d h b (K lo h) (ev x) (ev y)
      | _ => binE d b (K lo h) (ev x) (ev y)
    | none => False
  | .unOp .not _ x => match ev x with
    | .v (.bool b) => K lo h (.v (.bool (!b)))
    | _ => False
  | .unOp .neg _ x => match ev x with
    | .v (.int .i64 n) => (-9223372036854775808 ≤ -n ∧ -n ≤ 9223372036854775807) ∧ K lo h (.v (.int .i64 (-n)))
    | _ => False
  | .convert a b x => match ty a, ty b, ev x with
    | some _, some e, .v (.int _ n) => match e.kind with
      | .int k => convI k n (K lo h)
      | _ => False
    | _, _, _ => False
  | .slice t x l n none => match md with
    | 1 => cutE ty t l n ev h (K lo) (ev x)
    | _ => sliceE ty t l n ev (K lo h) (ev x)
  | .fieldAddr t x f => match fdd ty t f with
    | some (off, e) => (e.size ≠ 0 ∧ (ev x).isAddr = true) ∧ K lo h ((ev x).shift off)
    | none => False
  | .field t x f => match fdd ty t f, ev x with
    | some (off, e), .agg cs => ldOk e cs off ∧ K lo h (ld e cs off)
    | _, _ => False
  | .indexAddr t x i => match elemD ty t, ev x, ev i with
    | some e, .row z xs _, .v (.int _ n) => (0 ≤ n ∧ n < xs.length ∧ z = e.size) ∧ K lo h (.ref (xs.getD n.toNat []) 0)
    | some e, .arr z k m, .v (.int _ n) => (0 ≤ n ∧ n < m ∧ z = e.size) ∧ K lo h (.eptr k m n.toNat 0)
    | _, _, _ => False
  | .index t x i => match ev x, ev i with
    | .v (.string b), .v (.int _ n) => (isStr ty t = true ∧ 0 ≤ n ∧ n < b.size) ∧ K lo h (.v (.int .u8 ((b.data.toList.getD n.toNat 0).toNat : Int)))
    | .agg cs, .v (.int _ n) => match arrD ty t with
      | some (_, m, e) => (0 ≤ n ∧ n < m ∧ ldOk e cs (n.toNat * e.size)) ∧ K lo h (ld e cs (n.toNat * e.size))
      | none => False
    | _, _ => False
  | .extract x i => match ev x with
    | .tup vs => i < vs.length ∧ K lo h (vs.getD i .junk)
    | _ => False
  | .makeFunc (.func f) first caps => ((first.size = 0 ∨ caps.size = 0) ∧ (caps.toList.map ev).all AV.noLoc = true ∧ (first.toList.map ev).all AV.noLoc = true) ∧ K lo h (fnE f (first.toList.map ev) (caps.toList.map ev))
  | .call c => match c.callee with
    | .builtin b => biE ty b ev h (K lo) c.args.toList c.argTypes.toList
    | .value f => match ev f with
      | .fn fid caps => (c.args.toList.map ev).all AV.noLoc = true ∧ ACalls P fid (c.args.toList.map ev ++ caps) h (fun r h' => K lo h' r)
      | .bfn fid fst => (c.args.toList.map ev).all AV.noLoc = true ∧ ACalls P fid (fst ++ c.args.toList.map ev) h (fun r h' => K lo h' r)
      | _ => False
    | _ => False
  | _ => False
section
variable {P : Program} {c : Cx} {o : Oper} {s : St} {ty : Nat → Option TyD}
theorem q_nilFn {x : Operand} (ho : o.op = .nilCheck x) {f : Nat} {cs : List AV} (h : s.ev x = .fn f cs) : Quiet P c o s (.fn f cs) := by
  refine quiet_pure fun G L a w sm => ?_
  have hr := sm.eve h
  generalize hq : a.eval x = q at hr
  have hr' : Rep G (.fn f cs) q := hr
  cases hr' with
  | fn _ _ vs u hl hu hr2 => exact ⟨_, by simp [execOp, ho, hq], RepT.of (.fn f cs vs u hl hu hr2)⟩
theorem apart_run {P : Program} {w : World} {g g' : Nat} {vs us : Array Value} {E F : TypeId} (h1 : w.heap[g]? = some (.cells vs E (0, 0))) (h2 : w.heap[g']? = some (.cells us F (0, 0))) :
    (sameAddr ⟨g, 0, none⟩ ⟨g', 0, none⟩).run P w = .ok (decide (g = g')) w := by
  by_cases e : g = g'
  · subst e; rw [decide_eq_true rfl]; exact run_sameAddr_same w _
  · rw [decide_eq_false e]; exact run_sameAddr_other w (fun h => e (by injection h)) h1 h2
theorem cellO_of {G : Gh} {h : Hp} {w : World} (hs : HSim G h w) {i g : Nat} (hi : cellO (h.H i) = true) (hg : G.at_ i = some g) : ∃ vs E, w.heap[g]? = some (.cells vs E (0, 0)) := by
  unfold cellO at hi
  split at hi
  · rename_i cs e
    obtain ⟨b, o, h1, h2, ⟨vs, E, rfl, _⟩, _⟩ := hs.obj i _ e
    rw [hg] at h1; cases h1; exact ⟨vs, E, h2⟩
  · rename_i E cs e
    obtain ⟨b, o, h1, h2, ⟨vs, rfl, _⟩, _⟩ := hs.obj i _ e
    rw [hg] at h1; cases h1; exact ⟨vs, E, h2⟩
  · cases hi
theorem ptr_run {G : Gh} {L : List Nat} {h : Hp} {w : World} {t : TypeId} {d : TyD} (hty : TyOk P ty) (hd : tyd P t = some d) (hz : ptrZ ty d) (hs : HSim G h w) {i j : Nat} {u v : Value} (hu : RepT G L (.ptr i 0) u) (hv : RepT G L (.ptr j 0) v) (hi : cellO (h.H i) = true) (hj : cellO (h.H j) = true) (o1 o2 : Operand) :
    ((do eqGuard .eql t o1 o2 u v; binOp .eql t u v : Sem Value).run P w) = .ok (.bool (i == j)) w ∧ ((do eqGuard .neq t o1 o2 u v; binOp .neq t u v : Sem Value).run P w) = .ok (.bool (!(i == j))) w := by
  have hu' : Rep G (.ptr i 0) u := hu
  have hv' : Rep G (.ptr j 0) v := hv
  cases hu' with
  | ptr _ _ g hg =>
  cases hv' with
  | ptr _ _ g' hg' =>
  have hij : (i == j) = decide (g = g') := by
    by_cases e : g = g'
    · subst e
      have := hs.inj i j g (by intro e; rw [e] at hi; cases hi) (by intro e; rw [e] at hj; cases hj) hg hg'
      simp [this]
    · have : i ≠ j := by rintro rfl; rw [hg] at hg'; exact e (by injection hg')
      simp [e, this]
  obtain ⟨_, D, _, _, hD, _, _, hk2, _⟩ := tyd_info hd
  have hq : ∀ dd, (Op.equalIn (dd + 1) t (.pointer (some ⟨g, 0, none⟩)) (.pointer (some ⟨g', 0, none⟩))).run P w = .ok (i == j) w := fun dd => by
    rw [hij]
    have hu := run_underlying hD w
    unfold ptrZ at hz
    rw [← hk2] at hz
    cases D <;> simp only [kindOf] at hz
    split at hz
    · rename_i d' hd'
      have hsz := sizeOf_run (hty _ _ hd') w
      obtain ⟨vs, E, h1⟩ := cellO_of hs hi hg
      obtain ⟨us, F, h2⟩ := cellO_of hs hj hg'
      simp only [Op.equalIn, Sem.run_bind, hu, hsz, Result.andThen_ok]
      rw [if_pos hz]
      exact apart_run h1 h2
    · exact hz.elim
  have hr : (Op.equal t (.pointer (some ⟨g, 0, none⟩)) (.pointer (some ⟨g', 0, none⟩))).run P w = .ok (i == j) w := hq 9999
  constructor
  · show ((do pure (); (do pure (.bool (← Op.equal t _ _)) : Sem Value)) : Sem Value).run P w = _
    simp only [pure_bind, Sem.run_bind, hr, Result.andThen_ok, Sem.run_pure]
  · show ((do pure (); (do pure (.bool (!(← Op.equal t _ _))) : Sem Value)) : Sem Value).run P w = _
    simp only [pure_bind, Sem.run_bind, hr, Result.andThen_ok, Sem.run_pure]
def eK (s : St) (o : Oper) (K : St → Prop) : List (List AV) → Hp → AV → Prop := fun lo' h' x => K (({ sl := s.sl, lo := lo', h := h' } : St).put o.dst x)
theorem a_arrNil (hty : TyOk P ty) {b : BinOp} {t t' : Nat} {x y : Operand} (hop : o.op = .binOp b t x y t') {d : TyD} (hd : ty t = some d) {n : Nat} (hn : arrNil d b (s.ev x) (s.ev y) = some n) {K : St → Prop} (h1 : n = 0 → K (s.put o.dst (.v (.bool true)))) (h2 : K (s.put o.dst (.v (.bool false)))) : Aop P c o s K := by
  rintro a w ⟨G, L, sm, hg, hf, hL⟩ Kc Qc hk
  have hxr := sm.ev x
  have hyr := sm.ev y
  unfold arrNil at hn
  split at hn
  · rename_i z k m n' c' hx hy
    split at hn
    · rename_i e hk1
      injection hn with hn
      subst hn
      rw [hx] at hxr
      rw [hy] at hyr
      generalize hu : a.eval x = u at hxr
      generalize hv : a.eval y = v at hyr
      cases hyr.v_inv
      have hxr' : Rep G (.arr z k m) u := hxr
      cases hxr' with
      | arr _ _ n3 q m3 c ha =>
      obtain ⟨_, ⟨q', c2, e1, _, hgg⟩, _⟩ := ha
      simp only [Value.slice.injEq] at e1
      obtain ⟨rfl, rfl, rfl⟩ := e1
      have n1 : NilK d.kind (.slice q m3 c) q.isNone := by rw [hk1]; exact .slice _ q _ _
      have n2 : NilK d.kind (.slice none n' c') true := by rw [hk1]; exact .slice _ none _ _
      have hr := (nil_run (hty _ _ hd) n1 n2 (by simp) x y w).1
      rw [Bool.and_true] at hr
      have hr2 : (execOp a.eval o).run P w = .ok (.value (.bool q.isNone)) w := by
        simp only [execOp, hop, hu, hv]; simp only [Sem.run_bind] at hr ⊢; rw [hr]; rfl
      unfold Oper.wp
      rw [hr2]
      rcases hgg with ⟨rfl, h0⟩ | ⟨g, rfl⟩
      · exact hk _ _ w (h1 h0) (In.put sm hg hf hL o.dst (RepT.of (.v _ rfl)))
      · exact hk _ _ w h2 (In.put sm hg hf hL o.dst (RepT.of (.v _ rfl)))
    · cases hn
  · cases hn
theorem vEff_sound (hty : TyOk P ty) {md : Nat} {K : St → Prop} (h : vEff P ty md o.op s.ev s.lo s.h (eK s o K)) : Aop P c o s K := by
  have ek : ∀ x, eK s o K s.lo s.h x → K (s.put o.dst x) := fun x h => h
  cases hop : o.op <;> simp only [vEff, hop] at h
  case move x => exact (q_move (.inl hop)).aop h
  case assign x => exact (q_move (.inr hop)).aop h
  case pick p x y =>
    split at h
    · rename_i b hb; exact (q_pick hop hb).aop h
    · exact h.elim
  case nilCheck x =>
    split at h
    · rename_i f cs hf; exact (q_nilFn hop hf).aop h
    · exact (q_nilCheck hop h.1).aop h.2
  case load t x =>
    split at h
    · rename_i d cs off hd hc; exact (q_load hop (hty _ _ hd) hc h.1).aop h.2
    · exact h.elim
  case store t x y =>
    split at h
    · rename_i d ds hd hc
      obtain ⟨hl, h⟩ := h
      unfold storeE at h
      split at h
      · rename_i j off hx
        split at h
        · rename_i cs hj; exact a_storeLoc hty hop hd hx hj hc hl h.1 h.2
        · exact h.elim
      · rename_i i off hx
        split at h
        · rename_i cs hi; exact a_storePtr hty hop hd hx hi hc hl h.1 h.2
        · rename_i E cs hi; exact a_storeObj hty hop hd hx hi hc hl h.1 h.2
        · exact h.elim
      · rename_i k n i f hx
        split at h
        · rename_i z xs hT; exact a_storeEptr hty hop hd hx hT h.1.1 h.1.2.1 hc hl h.1.2.2 h.2
        · exact h.elim
      · rename_i cs off hx
        split at h
        · rename_i p q hp
          obtain ⟨⟨h1, rfl⟩, h⟩ := h
          exact a_storeRef hty hop hd hx hp hc h1.1 h1.2 h
        · exact h.elim
      · exact h.elim
    · exact h.elim
  case alloc t =>
    split at h
    · rename_i d hd
      split at h
      · exact a_allocNew hty hop hd h
      · exact a_allocLoc hty hop hd h
    · exact h.elim
  case box t x =>
    split at h
    · rename_i cs hc
      split at h
      · exact (q_box hop hc).aop h
      · exact a_boxLoc hop hc h
      · exact a_boxNew hop hc h
    · exact h.elim
  case build t parts =>
    split at h
    · rename_i d hd
      split at h
      · rename_i ds hds; exact (q_build hty hop hd hds h.1).aop h.2
      · exact h.elim
    · split at h
      · rename_i d n e hd
        split at h
        · rename_i ds hds; exact (q_buildArr hty hop hd hds).aop h
        · exact h.elim
      · exact h.elim
  case buildSlice t n parts =>
    split at h
    · rename_i e he
      split at h
      · rename_i hmd
        obtain ⟨_, rfl⟩ := hmd
        exact a_slice0 hty hop h.1 he h.2
      · split at h
        · rename_i hmd
          obtain ⟨_, rfl⟩ := hmd
          exact a_slice0t hty hop h.1 he h.2
        · split at h
          · rename_i xs hxs
            obtain ⟨⟨h1, h2, h3, h4⟩, h⟩ := h
            split at h
            · exact a_sliceN hty hop he h1 h2 hxs h3 h4 h
            · exact (q_buildSlice hty hop he h1 h2 hxs h3 h4).aop h
          · exact h.elim
    · exact h.elim
  case makeSlice t x y =>
    split at h
    · rename_i e k1 n k2 m he hx hy
      obtain ⟨⟨h0, rfl, h1, h2⟩, ⟨h3, h4⟩, h⟩ := h
      exact a_makeSlice hty hop he hx hy h0 h1 h2 h3 h4 h
    · exact h.elim
  case makeMap t hint =>
    cases hint <;> simp only at h
    exact a_makeMap hop h
  case range t x =>
    split at h
    · rename_i ed hd
      unfold rangeE at h
      split at h
      · rename_i m hx
        split at h
        · rename_i es hi
          exact a_rangeMap hty hop hd hx hi fun i born clock a b c d e => h i born clock a ⟨b, c, d, e⟩
        · exact h.elim
      · exact h.elim
    · exact h.elim
  case next it b =>
    cases b <;> simp only at h
    unfold nextE at h
    split at h
    · rename_i i hx
      split at h
      · rename_i m since seen c0 hi
        split at h
        · rename_i es born clock hm
          exact a_nextMap hop hx hi hm h.1.1 h.1.2 h.2.1 fun j a b => h.2.2 j ⟨a, b⟩
        · exact h.elim
      · exact h.elim
    · exact h.elim
  case entry it =>
    unfold entryE at h
    split at h
    · rename_i i hx
      split at h
      · rename_i m since seen c0 hi
        split at h
        · rename_i es born clock hm
          obtain ⟨j, ⟨q1, q2, rfl⟩, q4⟩ := h
          exact a_entryMap hop hx hi hm q1 q2 q4
        · exact h.elim
      · exact h.elim
    · exact h.elim
  case lookup t x k ok =>
    split at h
    · rename_i ed hd
      unfold lookE at h
      split at h
      · rename_i i b hx hk
        split at h
        · rename_i es hi
          refine (q_lookup hty hop hd hx hi hk).aop ?_
          split at h
          · exact h
          · exact h
        · exact h.elim
      · exact h.elim
    · exact h.elim
  case mapUpdate t m k x =>
    split at h
    · rename_i ed hd
      unfold updE at h
      split at h
      · rename_i i b hm hk
        split at h
        · rename_i es hi; exact a_mapUpdate hty (.inl hop) hd hm hi hk h.1 h.2
        · exact h.elim
      · exact h.elim
    · exact h.elim
  case insert t m k x =>
    split at h
    · rename_i ed hd
      unfold updE at h
      split at h
      · rename_i i b hm hk
        split at h
        · rename_i es hi; exact a_mapUpdate hty (.inr hop) hd hm hi hk h.1 h.2
        · exact h.elim
      · exact h.elim
    · exact h.elim
  case binOp b t x y t' =>
    split at h
    · rename_i d hd
      split at h
      · unfold ptrE at h
        split at h
        · rename_i n0 hn0
          intro a w hi Kc Qc hk
          exact a_arrNil hty hop hd hn0 h.1 h.2 a w hi Kc Qc hk
        obtain ⟨⟨hz, hb⟩, h⟩ := h
        have key : ∀ (r : Bool), ((b = .eql ∧ r = ptrV (s.ev x) (s.ev y)) ∨ (b = .neq ∧ r = !(ptrV (s.ev x) (s.ev y)))) → Quiet P c o s (.v (.bool r)) := fun r hr => quiet_pure fun G L a w sm => by
          have hrun : ((do eqGuard .eql t x y (a.eval x) (a.eval y); binOp .eql t (a.eval x) (a.eval y) : Sem Value).run P w) = .ok (.bool (ptrV (s.ev x) (s.ev y))) w ∧ ((do eqGuard .neq t x y (a.eval x) (a.eval y); binOp .neq t (a.eval x) (a.eval y) : Sem Value).run P w) = .ok (.bool (!(ptrV (s.ev x) (s.ev y)))) w := by
            have hxr := sm.ev x
            have hyr := sm.ev y
            revert hb hxr hyr
            generalize s.ev x = ax
            generalize s.ev y = ay
            intro hb hxr hyr
            unfold ptrS at hb
            split at hb
            · exact ptr_run hty (hty _ _ hd) hz sm.hs hxr hyr hb.1 hb.2 x y
            · exact hb.elim
          refine ⟨.bool r, ?_, RepT.of (.v _ rfl)⟩
          rcases hr with ⟨rfl, rfl⟩ | ⟨rfl, rfl⟩
          · have := hrun.1; simp only [execOp, hop]; simp only [Sem.run_bind] at this ⊢; rw [this]; rfl
          · have := hrun.2; simp only [execOp, hop]; simp only [Sem.run_bind] at this ⊢; rw [this]; rfl
        unfold nBin at h
        split at h
        · exact (key _ (.inl ⟨rfl, rfl⟩)).aop h
        · exact (key _ (.inr ⟨rfl, rfl⟩)).aop h
        · exact h.elim
      unfold binE at h
      split at h
      · rename_i p q hp hq
        obtain ⟨hb, h⟩ := h
        have key : ∀ (r : Bool), ((b = .eql ∧ r = (p && q)) ∨ (b = .neq ∧ r = !(p && q))) → Quiet P c o s (.v (.bool r)) := fun r hr => quiet_pure fun G L a w sm => by
          have hrun := nil_run (hty _ _ hd) (nilOf_sound (sm.ev x) hp) (nilOf_sound (sm.ev y) hq) hb x y w
          refine ⟨.bool r, ?_, RepT.of (.v _ rfl)⟩
          rcases hr with ⟨rfl, rfl⟩ | ⟨rfl, rfl⟩
          · have := hrun.1; simp only [execOp, hop]; simp only [Sem.run_bind] at this ⊢; rw [this]; rfl
          · have := hrun.2; simp only [execOp, hop]; simp only [Sem.run_bind] at this ⊢; rw [this]; rfl
        unfold nBin at h
        split at h
        · exact (key _ (.inl ⟨rfl, rfl⟩)).aop h
        · exact (key _ (.inr ⟨rfl, rfl⟩)).aop h
        · exact h.elim
      · obtain ⟨hb, h⟩ := h
        intro a w hi Kc Qc hk
        exact q_bin hty hop h hd (fun bb hbb => by
          rw [hbb] at hb
          simp only [boolOk] at hb
          split at hb
          · assumption
          · cases hb) (fun cs hcs => by
          rw [hcs] at hb
          simpa only [boolOk] using hb) a w hi Kc Qc (fun z v w' hz hi' => hk _ _ _ hz hi')
    · exact h.elim
  case unOp uo t x =>
    cases uo <;> simp only at h
    case not =>
      split at h
      · rename_i b hb; exact (q_not hop hb).aop h
      · exact h.elim
    case neg =>
      split at h
      · rename_i n hn; exact (q_neg hop hn h.1).aop h.2
      · exact h.elim
  case convert a b x =>
    split at h
    · rename_i d e k n hd he hx
      split at h
      · rename_i kk hk
        unfold convI at h
        split at h
        · exact (q_convInt hty hop hd he hk hx (by rw [IntWalk.i64_in _ h.1])).aop h.2
        · exact (q_convInt hty hop hd he hk hx rfl).aop h
      · exact h.elim
    · exact h.elim
  case slice t x l n mx =>
    cases mx <;> simp only at h
    split at h
    · unfold cutE at h
      split at h
      · rename_i z k m hx
        split at h
        · rename_i e l' j z' xs he hl hn hT
          obtain ⟨⟨rfl, h1, rfl, h2, h3⟩, h⟩ := h
          exact a_cut hty hop he hx hl hn hT h1 h2 h3 h
        · exact h.elim
      · exact h.elim
    unfold sliceE at h
    split at h
    · rename_i z xs tk hx
      split at h
      · rename_i e l' n' he hl hn
        obtain ⟨⟨h1, h2, h3, h4⟩, h⟩ := h
        exact (q_sliceRow hty hop he hx hl hn h1 h2 h3 h4).aop h
      · exact h.elim
    · rename_i b hx
      split at h
      · rename_i l' n' hl hn
        obtain ⟨⟨h1, h2, h3, h4⟩, h⟩ := h
        exact (q_sliceStr hty hop h1 hx hl hn h2 h3 h4).aop h
      · exact h.elim
    · exact h.elim
  case fieldAddr t x f =>
    split at h
    · rename_i off e hf; exact (q_fieldAddr hty hop hf h.1.1 h.1.2).aop h.2
    · exact h.elim
  case field t x f =>
    split at h
    · rename_i off e cs hf hx; exact (q_field hty hop hf hx h.1).aop h.2
    · exact h.elim
  case indexAddr t x i =>
    split at h
    · rename_i e z xs tk k n he hx hn; exact (q_indexRow hty hop he hx hn h.1.1 h.1.2.1 h.1.2.2).aop h.2
    · rename_i e z k m kk n he hx hn; exact (q_indexArr hty hop he hx hn h.1.1 h.1.2.1 h.1.2.2).aop h.2
    · exact h.elim
  case index t x i =>
    split at h
    · rename_i b k n hx hn; exact (q_indexStr hty hop h.1.1 hx hn h.1.2.1 h.1.2.2).aop h.2
    · rename_i cs k j hx hj
      split at h
      · rename_i d m e hd; exact (q_indexArrV hty hop hd hx hj h.1.1 h.1.2.1 h.1.2.2).aop h.2
      · exact h.elim
    · exact h.elim
  case extract x i =>
    split at h
    · rename_i vs hx; exact (q_extract hop hx h.1).aop h.2
    · exact h.elim
  case makeFunc f first caps =>
    cases f <;> simp only at h
    rename_i fid
    obtain ⟨⟨h1, h2, h3⟩, h⟩ := h
    by_cases h0 : first.size = 0
    · have hf0 : first = #[] := Array.eq_empty_of_size_eq_zero h0
      subst hf0
      refine (q_makeFunc hop rfl ?_).aop h
      rw [List.all_eq_true] at h2 ⊢
      intro y hy
      have := h2 y hy
      cases y <;> first | rfl | simp [AV.noLoc] at this
    · have hc0 : caps = #[] := Array.eq_empty_of_size_eq_zero (h1.resolve_left h0)
      have e : fnE fid (first.toList.map s.ev) (caps.toList.map s.ev) = .bfn fid (first.toList.map s.ev) := by
        cases hl : first.toList with
        | nil => exact absurd (by rw [← Array.length_toList, hl]; rfl) h0
        | cons x l => rfl
      rw [e] at h
      refine (q_makeFuncB hop hc0 ?_).aop h
      rw [List.all_eq_true] at h3 ⊢
      intro y hy
      have := h3 y hy
      cases y <;> first | rfl | simp [AV.noLoc] at this
  case call c' =>
    obtain ⟨callee, args, ts⟩ := c'
    cases callee <;> simp only at h
    case builtin b =>
      unfold biE at h
      split at h
      · rename_i x t ha ht
        have ha' : args = #[x] := by rw [← Array.toList_inj]; exact ha
        have ht' : ts = #[t] := by rw [← Array.toList_inj]; exact ht
        subst ha'; subst ht'
        cases b <;> simp only at h
        unfold lenE at h
        split at h
        · rename_i z xs tk hx; exact (q_len (tt := 0) hop h.1 hty hx rfl).aop h.2
        · rename_i b hx; exact (q_lenStr hty hop h.1 hx).aop h.2
        · rename_i z k n hx; exact (q_lenArr hop h.1 hty hx).aop h.2
        · rename_i hx; exact (q_lenNil hop h.1 hty hx).aop h.2
        · exact h.elim
      · rename_i x y t u ha ht
        have ha' : args = #[x, y] := by rw [← Array.toList_inj]; exact ha
        have ht' : ts = #[t, u] := by rw [← Array.toList_inj]; exact ht
        subst ha'; subst ht'
        cases b <;> simp only at h
        case append =>
          split at h
          · rename_i htu
            subst htu
            split at h
            · rename_i e he
              unfold appE at h
              split at h
              · rename_i z xs k hx
                split at h
                · rename_i zy ys hy
                  obtain ⟨⟨h1, h2, h3, h4, h5⟩, ⟨h6, h7⟩, h⟩ := h
                  exact a_append hty hop he hx h1 h2 hy h3 h4 h5 h6 h7 h
                · exact h.elim
              · rename_i z k n hx
                split at h
                · rename_i zy ys z' xs hy hT
                  obtain ⟨⟨h1, rfl, h2, h3, h4, h5⟩, ⟨h6, h7⟩, h⟩ := h
                  exact a_appendArr hty hop he hx h1 hT h2 hy h3 h4 h5 h6 h7 h
                · exact h.elim
              · rename_i hx
                split at h
                · rename_i zy ys hy
                  obtain ⟨⟨rfl, h1, h2⟩, ⟨h3, h4⟩, h⟩ := h
                  exact a_appendNil hty hop he hx hy h1 h2 h3 h4 h
                · exact h.elim
              · exact h.elim
            · exact h.elim
          · obtain ⟨hstr, h⟩ := h
            split at h
            · rename_i e he
              unfold appS at h
              split at h
              · rename_i z k n hx
                split at h
                · rename_i b z' xs hy hT
                  obtain ⟨⟨rfl, rfl, h3, h4, h5⟩, ⟨h6, h7⟩, h⟩ := h
                  exact a_appendStr hty hop he hstr hx hT h6 hy h3 h4 h5 h7 h
                · rename_i b E xs hy hT
                  obtain ⟨⟨rfl, h2, h3, h4, h5⟩, ⟨h6, h7⟩, h⟩ := h
                  exact a_appendBuf hty hop he h2 hstr hx hT h6 hy h3 h4 h5 h7 h
                · exact h.elim
              · exact h.elim
            · exact h.elim
        case min =>
          unfold minE at h
          split at h
          · rename_i k m k' n hx hy
            obtain ⟨rfl, h⟩ := h
            exact (q_min hop hx hy).aop h
          · exact h.elim
        case max =>
          unfold minE at h
          split at h
          · rename_i k m k' n hx hy
            obtain ⟨rfl, h⟩ := h
            exact (q_max hop hx hy).aop h
          · exact h.elim
      · exact h.elim
    case value f =>
      split at h
      · rename_i fid caps hf; exact a_call hop hf h.1 h.2
      · rename_i fid fst hf; exact a_callB hop hf h.1 h.2
      · exact h.elim
end
end Go.Proofs.YtpnfkfbapfnboaaGreatDoor

