/- Loops that are played: their state, and where it lies. -/
import Derived.Test.YtoleejecmefogaaDoorM4
namespace Go.Proofs.YtoleejecmefogaaDoor
open Go
set_option maxRecDepth 100000
inductive AT where
  | mk (i c : Nat) (kids : List AT)
instance : Inhabited AT := ⟨.mk 0 0 []⟩
inductive PS where
  | mk (had : Int) (of : List Int) (kids : List PS)
instance : Inhabited PS := ⟨.mk 0 [] []⟩
def AT.id : AT → Nat
  | .mk i _ _ => i
def idsT : AT → List Nat
  | .mk i _ ks => i :: (ks.map idsT).flatten
def toksT : AT → List Nat
  | .mk _ c ks => c :: (ks.map toksT).flatten
theorem idsT_eq (i c : Nat) (ks : List AT) : idsT (.mk i c ks) = i :: (ks.map idsT).flatten := by rw [idsT]
theorem toksT_eq (i c : Nat) (ks : List AT) : toksT (.mk i c ks) = c :: (ks.map toksT).flatten := by rw [toksT]
theorem idsT_kid {i c : Nat} {ks : List AT} {j : Nat} (h : j < ks.length) {x : Nat} (hx : x ∈ idsT (ks.getD j default)) : x ∈ idsT (.mk i c ks) := by
  rw [idsT_eq]
  refine List.mem_cons_of_mem _ (List.mem_flatten.2 ⟨_, List.mem_map.2 ⟨_, ?_, rfl⟩, hx⟩)
  rw [List.getD_eq_getElem?_getD, List.getElem?_eq_getElem h]; exact List.getElem_mem _
theorem toksT_kid {i c : Nat} {ks : List AT} {j : Nat} (h : j < ks.length) {x : Nat} (hx : x ∈ toksT (ks.getD j default)) : x ∈ toksT (.mk i c ks) := by
  rw [toksT_eq]
  refine List.mem_cons_of_mem _ (List.mem_flatten.2 ⟨_, List.mem_map.2 ⟨_, ?_, rfl⟩, hx⟩)
  rw [List.getD_eq_getElem?_getD, List.getElem?_eq_getElem h]; exact List.getElem_mem _
/-- Parts lie apart. -/
def Sep : Nat → AT → Prop
  | 0, _ => False
  | d + 1, .mk i c az => ∀ j, j < az.length → (i ∉ idsT (az.getD j default) ∧ c ∉ toksT (az.getD j default) ∧ Sep d (az.getD j default)) ∧
      ∀ l, l < az.length → l ≠ j → (∀ x ∈ idsT (az.getD j default), x ∉ idsT (az.getD l default)) ∧ (∀ x ∈ toksT (az.getD j default), x ∉ toksT (az.getD l default))
/-- What a player's memory holds besides: cells behind the counts; what the counts are. -/
structure RK where
  ex : LT → List AV
  cf : Int → List Int → List Int
def kidsC (az : List AT) (K : AV) : Prop := az = [] ∧ K = .v (.slice none 0 0) ∨ ∃ tk, K = .row 1 (az.map fun a => [.ptr a.id 0]) tk
def RAt (X : RK) (h : Hp) : Nat → LT → AT → PS → Prop
  | 0, _, _, _ => False
  | d + 1, .mk kind item long many kids shares, .mk i c az, .mk p cs ks =>
    (∃ K, h.H i = some (.cells ([.v (.int .i64 kind), .v (.string item), .v (.int .i64 long), .v (.int .i64 many), .row 6 (kids.map encL) none, .row 1 (shares.map encI) none, K, .v (.int .i64 p), .arr 1 c kids.length] ++ X.ex (.mk kind item long many kids shares))) ∧ kidsC az K) ∧
    h.T c = some (.cont 1 ((X.cf kind cs).map encI)) ∧ ((X.cf kind cs).length = kids.length ∧ cs.length = kids.length ∧ az.length = kids.length ∧ ks.length = kids.length) ∧
    ∀ j, j < kids.length → RAt X h d (kids.getD j default) (az.getD j default) (ks.getD j default)
theorem RAt.frame {X : RK} {h h' : Hp} : ∀ {d : Nat} {t : LT} {a : AT} {s : PS}, RAt X h d t a s → (∀ i ∈ idsT a, h'.H i = h.H i) → (∀ c ∈ toksT a, h'.T c = h.T c) → RAt X h' d t a s
  | 0, _, _, _, h, _, _ => h.elim
  | d + 1, .mk kind item long many kids shares, .mk i c az, .mk p cs ks, ⟨⟨K, h1, hK⟩, h2, h3, h4⟩, hi, hc =>
    ⟨⟨K, by rw [hi i (by rw [idsT_eq]; simp)]; exact h1, hK⟩, by rw [hc c (by rw [toksT_eq]; simp)]; exact h2, h3, fun j hj =>
      (h4 j hj).frame (fun x hx => hi x (idsT_kid (by omega) hx)) (fun x hx => hc x (toksT_kid (by omega) hx))⟩
/-- No count is above n. -/
def PSB : Nat → LT → PS → Int → Prop
  | 0, _, _, _ => True
  | d + 1, .mk _ _ _ _ kids _, .mk p cs ks, n => (0 ≤ p ∧ p ≤ n) ∧ (∀ x ∈ cs, 0 ≤ x ∧ x ≤ n) ∧ ∀ j, j < kids.length → PSB d (kids.getD j default) (ks.getD j default) n
theorem PSB.mono {n m : Int} (hnm : n ≤ m) : ∀ {d : Nat} {t : LT} {s : PS}, PSB d t s n → PSB d t s m
  | 0, _, _, _ => trivial
  | d + 1, .mk .., .mk p cs ks, ⟨h1, h2, h3⟩ => ⟨by omega, fun x hx => by have := h2 x hx; omega, fun j hj => (h3 j hj).mono hnm⟩
def ps0 : LT → PS
  | .mk _ _ _ _ kids _ => .mk 0 (kids.map fun _ => 0) (kids.map ps0)
theorem ps0_eq (kind : Int) (item : ByteArray) (long many : Int) (kids : List LT) (shares : List Int) : ps0 (.mk kind item long many kids shares) = .mk 0 (kids.map fun _ => 0) (kids.map ps0) := by rw [ps0]
/-- Which kid a LoopShare plays: the first of those that are furthest behind. -/
def bestTo (f : Nat → Int) : Nat → Nat
  | 0 => 0
  | j + 1 => if f j > f (bestTo f j) then j else bestTo f j
theorem bestTo_lt (f : Nat → Int) : ∀ n, 0 < n → bestTo f n < n
  | 0, h => by omega
  | n + 1, _ => by
    simp only [bestTo]
    split
    · omega
    · cases n with
      | zero => simp [bestTo]
      | succ n => have := bestTo_lt f (n + 1) (by omega); omega
def shareV (shares : List Int) (p : Int) (cs : List Int) (j : Nat) : Int := shares.getD j 0 * (p + 1) - cs.getD j 0 * shares.sum
def nextF (shares : List Int) (p : Int) (cs : List Int) : Nat := bestTo (shareV shares p cs) shares.length
def idxL (kind p many : Int) (nk nx : Nat) : List Nat :=
  if kind = 1 then [] else if kind = 2 then List.range nk else if kind = 3 then [(p.tmod nk).toNat] else if kind = 4 then [nx] else List.replicate many.toNat 0
def stepU (f : LT → PS → PS × List (ByteArray × Int)) (kids : List LT) (a : (List Int × List PS) × List (ByteArray × Int)) (i : Nat) : (List Int × List PS) × List (ByteArray × Int) :=
  ((a.1.1.set i (a.1.1.getD i 0 + 1), a.1.2.set i (f (kids.getD i default) (a.1.2.getD i default)).1), a.2 ++ (f (kids.getD i default) (a.1.2.getD i default)).2)
/-- A pass, and what it plays. -/
def passU : Nat → LT → PS → PS × List (ByteArray × Int)
  | 0, _, s => (s, [])
  | d + 1, .mk kind item long many kids shares, .mk p cs ks =>
    let r := (idxL kind p many kids.length (nextF shares p cs)).foldl (stepU (passU d) kids) ((cs, ks), if kind = 1 then [(item, long)] else [])
    (.mk (p + 1) r.1.1 r.1.2, r.2)
theorem passU_succ (d : Nat) (kind : Int) (item : ByteArray) (long many : Int) (kids : List LT) (shares : List Int) (p : Int) (cs : List Int) (ks : List PS) : passU (d + 1) (.mk kind item long many kids shares) (.mk p cs ks) =
    (.mk (p + 1) ((idxL kind p many kids.length (nextF shares p cs)).foldl (stepU (passU d) kids) ((cs, ks), if kind = 1 then [(item, long)] else [])).1.1 ((idxL kind p many kids.length (nextF shares p cs)).foldl (stepU (passU d) kids) ((cs, ks), if kind = 1 then [(item, long)] else [])).1.2, ((idxL kind p many kids.length (nextF shares p cs)).foldl (stepU (passU d) kids) ((cs, ks), if kind = 1 then [(item, long)] else [])).2) := rfl
/-- A right loop. -/
def VL : Nat → LT → Prop
  | 0, _ => False
  | d + 1, .mk kind _ _ many kids shares => (1 ≤ kind ∧ kind ≤ 5) ∧ (kind = 1 → kids = []) ∧ (kind ≠ 1 → kids ≠ []) ∧ (kind = 5 → kids.length = 1 ∧ 1 ≤ many ∧ many ≤ 100) ∧ (kind = 4 → shares.length = kids.length) ∧ (∀ n ∈ shares, 1 ≤ n ∧ n ≤ 1000) ∧
      (kids.length ≤ 3 ∧ shares.length ≤ 5) ∧ ∀ k ∈ kids, VL d k
def encStep (x : ByteArray × Int) : List AV := [.v (.string x.1), .v (.int .i64 x.2)]
def OutAt (h : Hp) (o k : Nat) (ex : List AV) (xs : List (ByteArray × Int)) : Prop := h.H o = some (.cells (.row 2 (xs.map encStep) (some k) :: ex)) ∧ h.T k = some (.tail xs.length)
section
variable {P : Program} {c : Cx} {Q : Exit → St → Prop} {s : St}
/-- A slot's value told more weakly. -/
theorem awp_weakS (t : Nat) {a a' : AV} {x : Code} (ht : s.sl.getD t .junk = a) (hn : a.noLoc = true) (hw : Weak a a') (h : Awp P c x Q { s with sl := s.sl.set t a' }) : Awp P c x Q s := by
  rintro ac w ⟨G, L, sm, hg, hf, hL⟩
  refine h ac w ⟨G, L, ⟨sm.hs, by simpa using sm.sz, fun u hu => ?_, sm.df, sm.ls⟩, hg, hf, hL⟩
  have hu' : u < s.sl.length := by simpa using hu
  have h1 := sm.sl u hu'
  simp only [List.getElem_set]
  split
  · rename_i e
    subst e
    rw [List.getD_eq_getElem?_getD, List.getElem?_eq_getElem hu'] at ht
    simp only [Option.getD_some] at ht
    rw [ht] at h1
    exact RepT.of (hw _ _ (h1.base hn))
  · exact h1
/-- A slot's written array is done. -/
theorem awp_frz (t k z : Nat) {xs : List (List AV)} {x : Code} (ht : s.sl.getD t .junk = .arr z k xs.length) (hT : s.h.T k = some (.cont z xs)) (hz : ∀ y ∈ xs, y.length = z) (h : Awp P c x Q { s with sl := s.sl.set t (.row z xs none), h := { s.h with T := upd s.h.T k none } }) : Awp P c x Q s := by
  rintro ac w ⟨G, L, sm, hg, hf, hL⟩
  obtain ⟨G', hle, hfr, hs2, hfz⟩ := sm.hs.freeze (h2 := { s.h with T := upd s.h.T k none }) (fun j => j = k) rfl (fun j hj => by subst hj; exact upd_same _ _ _) (fun j hj => upd_other _ _ hj)
  refine h ac w ⟨G', L, ⟨hs2, by simpa using sm.sz, fun u hu => ?_, sm.df, sm.ls.fr hle hfr⟩, hg.trans hle, hf.trans hfr, hL⟩
  have hu' : u < s.sl.length := by simpa using hu
  have h1 := sm.sl u hu'
  simp only [List.getElem_set]
  split
  · rename_i e
    subst e
    rw [List.getD_eq_getElem?_getD, List.getElem?_eq_getElem hu'] at ht
    simp only [Option.getD_some] at ht
    rw [ht] at h1
    exact RepT.of (hfz k z xs _ rfl hT (h1.base rfl) xs rfl hz fun us hus => hus.mono hle)
  · exact h1.mono hle
/-- A cell of a shared object that is nil may get the right to append. -/
theorem awp_ownPtr (o i z : Nat) {x : Code} {cs : List AV} (hj : s.h.H o = some (.cells cs)) (hi : cs[i]? = some (.v (.slice none 0 0))) (h : ∀ k, s.h.T k = none → Awp P c x Q { s with h := { H := upd s.h.H o (some (.cells (cs.set i (.row z [] (some k))))), T := upd s.h.T k (some (.tail 0)) } }) : Awp P c x Q s := by
  rintro a w ⟨G, L, sm, hg, hf, hL⟩
  obtain ⟨hT, s1, g1, f1⟩ := sm.newTok (o := .tail 0) (.inl rfl)
  obtain ⟨b, ob, hb, hw, hr, hv⟩ := s1.hs.obj o _ hj
  obtain ⟨vs, E, rfl, hrl⟩ := hr
  have hil : i < cs.length := (List.getElem?_eq_some_iff.1 hi).1
  obtain ⟨s2, f2⟩ := s1.setObj (i := o) (g := b) (x := .cells cs) (y := .cells (cs.set i (.row z [] (some G.nx)))) hj hb (fun _ _ => rfl) hw ⟨vs, E, rfl, by
    refine ⟨by simpa using hrl.1, fun q hq hq' => ?_⟩
    have hq2 : q < cs.length := by simpa using hq
    simp only [List.length_set] at hq'
    have h3 := hrl.2 q hq2 hq'
    simp only [List.length_set]
    refine ⟨?_, h3.2⟩
    simp only [List.getElem_set]
    split
    · rename_i eiq
      subst eiq
      have h4 := h3.1
      rw [show cs[i] = AV.v (.slice none 0 0) by rw [List.getElem?_eq_getElem hq2] at hi; simpa using hi] at h4
      have hv := (RepT.of (L := []) h4).v_inv
      rw [hv]
      refine .nil z _ ⟨by simp [Gh.newTk], ?_⟩
      have : G.newTk.tl G.nx = some none := upd_same _ _ _
      rw [this]
      exact ⟨rfl, none, rfl⟩
    · exact h3.1⟩ rfl rfl rfl (Nat.le_refl _)
  exact h G.nx hT a w ⟨G.newTk, L, s2, hg.trans g1, (hf.trans f1).trans f2, hL⟩
end
end Go.Proofs.YtoleejecmefogaaDoor
/- signref1.size: how many parts a loop has, and how deep it is. -/
namespace Go.Proofs.YtoleejecmefogaaDoor
open Go
set_option maxRecDepth 100000
set_option maxHeartbeats 8000000
def manyF : LT → Int
  | .mk _ _ _ _ kids _ => (kids.map manyF).sum + 1
def deepF : LT → Int
  | .mk _ _ _ _ kids _ => (kids.map deepF).foldl max 0 + 1
theorem manyF_eq (kind : Int) (item : ByteArray) (long many : Int) (kids : List LT) (shares : List Int) : manyF (.mk kind item long many kids shares) = (kids.map manyF).sum + 1 := by rw [manyF]
theorem deepF_eq (kind : Int) (item : ByteArray) (long many : Int) (kids : List LT) (shares : List Int) : deepF (.mk kind item long many kids shares) = (kids.map deepF).foldl max 0 + 1 := by rw [deepF]
theorem sum_bd {α : Type} (f : α → Int) (b : Int) (hb : 0 ≤ b) : ∀ (l : List α), (∀ x ∈ l, 0 ≤ f x ∧ f x ≤ b) → 0 ≤ (l.map f).sum ∧ (l.map f).sum ≤ l.length * b
  | [], _ => by simp
  | x :: l, h => by
    have h1 := h x (by simp)
    have h2 := sum_bd f b hb l fun y hy => h y (by simp [hy])
    have e : ((l.length + 1 : Nat) : Int) * b = l.length * b + b := by rw [show ((l.length + 1 : Nat) : Int) = l.length + 1 by omega, Int.add_mul, Int.one_mul]
    simp only [List.map_cons, List.sum_cons, List.length_cons, e]
    omega
theorem max_bd {α : Type} (f : α → Int) (b : Int) : ∀ (l : List α) (a : Int), a ≤ b → (∀ x ∈ l, f x ≤ b) → a ≤ (l.map f).foldl max a ∧ (l.map f).foldl max a ≤ b
  | [], a, ha, _ => by simp; omega
  | x :: l, a, ha, h => by
    have h1 := h x (by simp)
    have h2 := max_bd f b l (max a (f x)) (by omega) fun y hy => h y (by simp [hy])
    simp only [List.map_cons, List.foldl_cons]
    omega
theorem size_bd : ∀ (d : Nat) (t : LT), LC d t → (1 ≤ manyF t ∧ manyF t ≤ 4 ^ d) ∧ 1 ≤ deepF t ∧ deepF t ≤ d
  | 0, _, h => h.elim
  | d + 1, .mk kind item long many kids shares, h => by
    obtain ⟨_, _, _, _, hk, _, _, hkk⟩ := h
    have h1 := sum_bd manyF (4 ^ d) (Int.le_of_lt (Int.pow_pos (by decide))) kids fun x hx => by have := (size_bd d x (hkk x hx)).1; omega
    have h2 := max_bd deepF d kids 0 (by omega) fun x hx => (size_bd d x (hkk x hx)).2.2
    have h3 : (kids.length : Int) * 4 ^ d ≤ 3 * 4 ^ d := Int.mul_le_mul_of_nonneg_right (by omega) (Int.le_of_lt (Int.pow_pos (by decide)))
    have h4 : (1 : Int) ≤ 4 ^ d := Int.pow_pos (by decide)
    rw [manyF_eq, deepF_eq]
    refine ⟨⟨by omega, ?_⟩, by omega, by omega⟩
    rw [Int.pow_succ]; omega
theorem take_succ_map {α : Type} {β : Type} [Inhabited α] (f : α → β) (l : List α) (j : Nat) (h : j < l.length) : (l.take (j + 1)).map f = (l.take j).map f ++ [f (l.getD j default)] := by
  rw [List.take_succ, List.getD_eq_getElem?_getD, List.getElem?_eq_getElem h]; simp only [List.map_append, Option.toList_some, List.map_cons, List.map_nil, Option.getD_some]
theorem getD_mem' {α : Type} (l : List α) (j : Nat) (d : α) (h : j < l.length) : l.getD j d ∈ l := by
  rw [List.getD_eq_getElem?_getD, List.getElem?_eq_getElem h]; exact List.getElem_mem _
def SizeI (kids : List LT) (h : Hp) (g : Nat) (s : St) : Prop :=
  ∃ j : Nat, g + j = kids.length ∧ s = ⟨(AV.junk :: AV.junk :: ((.v (.int .i64 ((kids.take j).map manyF).sum)) :: (.v (.int .i64 (((kids.take j).map deepF).foldl max 0))) :: (jnk 5 ((.row 6 (kids.map encL) none) :: (.v (.int .i64 kids.length)) :: (.v (.int .i64 j)) :: (jnk 19 []))))), [], h⟩
theorem g_size : ∀ (d : Nat) (t : LT) (h : Hp), LC d t → d ≤ 28 → ACalls Tryd.prog 21 [.agg (encL t)] h (fun r h' => r = .tup [.v (.int .i64 (manyF t)), .v (.int .i64 (deepF t))] ∧ h' = h)
  | 0, _, _, hb, _ => hb.elim
  | d + 1, t, h, hb, hd => by
    cases t with
    | mk kind item long many kids shares =>
    have hb0 := hb
    obtain ⟨b1, b2, b3, b4, b5, b6, b7, b8⟩ := hb
    have hlen0 := encL_len (.mk kind item long many kids shares)
    have hbd : ∀ x ∈ kids, (0 ≤ manyF x ∧ manyF x ≤ 4 ^ d) ∧ deepF x ≤ d := fun x hx => by have := size_bd d x (b8 x hx); omega
    have h4 : (4 : Int) ^ d ≤ 4 ^ 27 := by
      have := Nat.pow_le_pow_right (n := 4) (by decide) (show d ≤ 27 by omega)
      exact_mod_cast this
    have hsum : ∀ j, 0 ≤ ((kids.take j).map manyF).sum ∧ ((kids.take j).map manyF).sum ≤ 3 * 4 ^ 27 := fun j => by
      have h1 := sum_bd manyF (4 ^ d) (Int.le_of_lt (Int.pow_pos (by decide))) (kids.take j) fun x hx => (hbd x (List.mem_of_mem_take hx)).1
      have h3 : ((kids.take j).length : Int) * 4 ^ d ≤ 3 * 4 ^ d := Int.mul_le_mul_of_nonneg_right (by simp; omega) (Int.le_of_lt (Int.pow_pos (by decide)))
      omega
    have hmax : ∀ j, 0 ≤ ((kids.take j).map deepF).foldl max 0 ∧ ((kids.take j).map deepF).foldl max 0 ≤ 100 := fun j => by
      have h1 := max_bd deepF d (kids.take j) 0 (by omega) fun x hx => (hbd x (List.mem_of_mem_take hx)).2
      omega
    refine acalls_of tyok Tryd.func21 rfl (by kernel_rfl) fun c => ?_; simp only [Tryd.ntmps21, List.length_cons, List.length_nil, Nat.reduceAdd, Nat.reduceSub, jnk_rep, List.cons_append, List.nil_append]
    rw [encL_eq]
    refine ruG (mdL [(5, 1)]) trivial ?_; (repeat' (with_reducible refine AndQ.mk ?_ ?_)); (all_goals (try ((with_reducible refine kin ?_); intro K1 hK1)))
    refine awp_loopC (rl false [2, 2, 5, 3, 19]) 0 (fun g s => SizeI kids h g s) kids.length ⟨0, by omega, rfl⟩ ?_
    rintro g _ ⟨j, hj, rfl⟩
    have hs := hsum j
    have hm := hmax j
    refine ruG (mdL [(5, 1)]) trivial ?_; (repeat' (with_reducible refine AndQ.mk ?_ ?_)); (all_goals (try ((with_reducible refine kin ?_); intro K1 hK1)))
    refine awp_cond (t := _) rfl (fun h1 => ?_) (fun h1 => ?_)
    · simp only [decide_eq_true_eq] at h1
      have hjk : j < kids.length := by omega
      have hg : (kids.map encL).getD j [] = encL (kids.getD j default) := getD_enc encL kids j default hjk
      have hmem := getD_mem' kids j default hjk
      have e1 := take_succ_map manyF kids j hjk
      have e2 := take_succ_map deepF kids j hjk
      have hbx := hbd _ hmem
      have hbt := b8 _ hmem
      generalize kids.getD j default = t2 at hg hmem e1 e2 hbx hbt
      have hlen := encL_len t2
      have htk : List.take 6 (encL t2) = encL t2 := List.take_of_length_le (Nat.le_of_eq hlen)
      have hdr : List.drop 6 (encL t2) = [] := List.drop_of_length_le (Nat.le_of_eq hlen)
      refine ruG (mdL [(5, 1)]) (And.intro @Int.toNat_natCast (And.intro hg (And.intro hlen (And.intro htk hdr)))) ?_; (repeat' (with_reducible refine AndQ.mk ?_ ?_)); (all_goals (try ((with_reducible refine kin ?_); intro K1 hK1)))
      refine (g_size d t2 h hbt (by omega)).mono ?_; rintro _ _ ⟨rfl, rfl⟩; refine hK1 _ ?_; clear hK1 K1
      refine ruG (mdL [(5, 1)]) trivial ?_; (repeat' (with_reducible refine AndQ.mk ?_ ?_)); (all_goals (try ((with_reducible refine kin ?_); intro K1 hK1)))
      refine ⟨g - 1, by omega, j + 1, by omega, ?_⟩
      rw [e1, e2, List.sum_append, List.foldl_append]
      simp only [List.sum_cons, List.sum_nil, List.foldl_cons, List.foldl_nil, Int.add_zero]
      rfl
    · simp only [decide_eq_false_iff_not] at h1
      have hjk : j = kids.length := by omega
      subst hjk
      simp only [List.take_length] at hs hm ⊢
      refine ruG (mdL [(5, 1)]) trivial ?_; (repeat' (with_reducible refine AndQ.mk ?_ ?_)); (all_goals (try ((with_reducible refine kin ?_); intro K1 hK1)))
      refine rtG Tryd.results21 ?_
      exact ⟨_, _, Weak.refl _, Hp.le.refl _, by rw [manyF_eq, deepF_eq], rfl⟩
end Go.Proofs.YtoleejecmefogaaDoor
/- signref1.newRunner. -/
namespace Go.Proofs.YtoleejecmefogaaDoor
open Go
set_option maxRecDepth 100000
set_option maxHeartbeats 8000000
theorem ru29SNewR {P Q X : Prop} (x : X) (q : Q) (h : X → Hold Q → P := by intro x0 q0; (repeat (first | (with_reducible refine awp_block ?_) | (with_reducible refine vRem_nil ?_) | (with_reducible refine vRst_nil ?_) | ((with_reducible refine vRem_id ?_); refine vRem_nil ?_) | ((first | ((with_reducible refine awp_idS (b := false) ?_); refine awp_seqR2 tyok (mdL [(5, 1), (12, 2)]) fun KN hKN => ?_) | ((with_reducible refine awp_idR (b := false) ?_); refine awp_region2 tyok (mdL [(5, 1), (12, 2)]) fun KN hKN => ?_) | ((with_reducible refine vRem_id ?_); refine vRem_go fun KN hKN => ?_) | ((with_reducible refine vRst_id ?_); refine vRst_go fun KN hKN => ?_) | ((with_reducible refine vMid_id ?_); refine vMid_go ?_ fun KN hKN => ?_) | ((with_reducible refine awp_idS (b := true) ?_); refine awp_seqD2 (id := 1) tyok (by kernel_rfl) (mdL [(5, 1), (12, 2)]) (E0 := [0, 1, 2, 3]) (pl := [(4, [0], [5]), (6, [], [7])]) 33 rfl (by kernel_rfl) fun KN hKN => ?_) | ((with_reducible refine awp_idR (b := true) ?_); refine awp_draw2 (id := 1) tyok (by kernel_rfl) (mdL [(5, 1), (12, 2)]) (E0 := [0, 1, 2, 3]) (pl := [(4, [0], [5]), (6, [], [7])]) 33 rfl (by kernel_rfl) fun KN hKN => ?_) | ((with_reducible refine awp_idS (b := true) ?_); refine awp_seqD2 (id := 5) tyok (by kernel_rfl) (mdL [(5, 1), (12, 2)]) (E0 := [0, 1, 2, 3, 4, 5]) (pl := [(6, [4], [7]), (8, [], [9, 10]), (11, [], [])]) 33 rfl (by kernel_rfl) fun KN hKN => ?_) | ((with_reducible refine awp_idR (b := true) ?_); refine awp_draw2 (id := 5) tyok (by kernel_rfl) (mdL [(5, 1), (12, 2)]) (E0 := [0, 1, 2, 3, 4, 5]) (pl := [(6, [4], [7]), (8, [], [9, 10]), (11, [], [])]) 33 rfl (by kernel_rfl) fun KN hKN => ?_)) <;> (simp only [vOps, jnk_zero, jnk_jnk, getD_jnk_lt, getD_jnk_ge, set_jnk_lt, set_jnk_ge, Nat.reduceSub, Nat.reduceLT, Nat.reduceLeDiff, gStep, condG, qV, binV, vV, iV, sV, bV, nV, arV, pickE, joinA, joinOk, isOpt, vEff, binE, vBin, iBin, sBin, arith, nilOf, nBin, boolOk, convI, storeE, newE, sliceE, appE, lenE, minE, biE, bndE, cellsAt, ldOk, ld, TyD.isAgg, AV.shift, AV.isAddr, AV.cellsB, AV.noLoc, rowOf, litRow, fillA, opS, uside, unw, evL, cv, St.put, opsOf, Value.oneCell', vIdx, stepI, vRest, reL, reI, mdL, splice, bef, aft, isCallB, isCallV, ↓reduceIte, Nat.reduceAdd, reduceCtorEq, Nat.reduceEqDiff, Nat.reduceMul, lemA, lemT, x0]; (try and_intros); (all_goals first | (refine hKN _ ?_; clear hKN KN) | (first | exact True.intro | (intros; first | exact True.intro | (with_reducible assumption) | omega | (with_reducible rfl) | (with_reducible decide) | (simp_all; done) | (simp_all; omega))) | skip))) | (with_reducible refine awp_seq ?_) | (with_reducible refine awp_skip ?_) | (with_reducible refine awp_exit ?_) | (with_reducible refine thenQ_normal ?_) | (with_reducible refine inBlock_normal ?_) | (with_reducible refine thenQ_exit ?_) | (with_reducible refine inBlock_exit ?_) | (with_reducible refine inBlock_other (by decide) ?_))); (all_goals (try revert KN)); first | (exact q0.out; done) | (apply Hold.fst; exact q0; apply Hold.snd; exact q0; done) | (apply Hold.a; exact q0; apply Hold.b; exact q0; apply Hold.c; exact q0; done) | (apply Hold.a4; exact q0; apply Hold.b4; exact q0; apply Hold.c4; exact q0; apply Hold.d4; exact q0; done)) : P := h x ⟨q⟩
theorem mem_idsT {i c : Nat} {az : List AT} {x : Nat} (h : x ∈ idsT (.mk i c az)) : x = i ∨ ∃ j, j < az.length ∧ x ∈ idsT (az.getD j default) := by
  rw [idsT_eq] at h
  rcases List.mem_cons.1 h with h | h
  · exact .inl h
  · obtain ⟨l, hl, hx⟩ := List.mem_flatten.1 h
    obtain ⟨a, ha, rfl⟩ := List.mem_map.1 hl
    obtain ⟨j, hj, rfl⟩ := List.getElem_of_mem ha
    exact .inr ⟨j, hj, by rw [List.getD_eq_getElem?_getD, List.getElem?_eq_getElem hj]; exact hx⟩
theorem mem_toksT {i c : Nat} {az : List AT} {x : Nat} (h : x ∈ toksT (.mk i c az)) : x = c ∨ ∃ j, j < az.length ∧ x ∈ toksT (az.getD j default) := by
  rw [toksT_eq] at h
  rcases List.mem_cons.1 h with h | h
  · exact .inl h
  · obtain ⟨l, hl, hx⟩ := List.mem_flatten.1 h
    obtain ⟨a, ha, rfl⟩ := List.mem_map.1 hl
    obtain ⟨j, hj, rfl⟩ := List.getElem_of_mem ha
    exact .inr ⟨j, hj, by rw [List.getD_eq_getElem?_getD, List.getElem?_eq_getElem hj]; exact hx⟩
theorem RAt.ne {X : RK} {h : Hp} : ∀ {d : Nat} {t : LT} {a : AT} {s : PS}, RAt X h d t a s → (∀ i ∈ idsT a, h.H i ≠ none) ∧ (∀ c ∈ toksT a, h.T c ≠ none)
  | 0, _, _, _, h => h.elim
  | d + 1, .mk kind item long many kids shares, .mk i c az, .mk p cs ks, ⟨⟨K, h1, hK⟩, h2, h3, h4⟩ => by
    refine ⟨fun x hx => ?_, fun x hx => ?_⟩
    · rcases mem_idsT hx with rfl | ⟨j, hj, hx⟩
      · rw [h1]; simp
      · exact (h4 j (by omega)).ne.1 x hx
    · rcases mem_toksT hx with rfl | ⟨j, hj, hx⟩
      · rw [h2]; simp
      · exact (h4 j (by omega)).ne.2 x hx
theorem RAt.cont {X : RK} {h : Hp} : ∀ {d : Nat} {t : LT} {a : AT} {s : PS}, RAt X h d t a s → ∀ c ∈ toksT a, ∃ xs, h.T c = some (.cont 1 xs)
  | 0, _, _, _, h => h.elim
  | d + 1, .mk kind item long many kids shares, .mk i c az, .mk p cs ks, ⟨_, h2, h3, h4⟩ => fun x hx => by
    rcases mem_toksT hx with rfl | ⟨j, hj, hx⟩
    · exact ⟨_, h2⟩
    · exact (h4 j (by omega)).cont x hx
def XR : RK := ⟨fun _ => [], fun _ cs => cs⟩
def cells9 (kind : Int) (item : ByteArray) (long many : Int) (kids : List LT) (shares : List Int) (K : AV) (p : Int) (c : Nat) : List AV :=
  [.v (.int .i64 kind), .v (.string item), .v (.int .i64 long), .v (.int .i64 many), .row 6 (kids.map encL) none, .row 1 (shares.map encI) none, K, .v (.int .i64 p), .arr 1 c kids.length]
/-- The kids that are made so far. -/
def NewI (X : RK) (d : Nat) (kids : List LT) (h : Hp) (i c : Nat) (az : List AT) (h' : Hp) : Prop :=
  (∀ l, l < az.length → RAt X h' d (kids.getD l default) (az.getD l default) (ps0 (kids.getD l default)) ∧ (i ∉ idsT (az.getD l default) ∧ c ∉ toksT (az.getD l default) ∧ Sep d (az.getD l default)) ∧
    (∀ x ∈ idsT (az.getD l default), h.H x = none) ∧ (∀ x ∈ toksT (az.getD l default), h.T x = none)) ∧
  (∀ j l, j < az.length → l < az.length → l ≠ j → (∀ x ∈ idsT (az.getD j default), x ∉ idsT (az.getD l default)) ∧ (∀ x ∈ toksT (az.getD j default), x ∉ toksT (az.getD l default))) ∧
  (∀ x, h.H x ≠ none → h'.H x = h.H x) ∧ (∀ x, h.T x ≠ none → h'.T x = h.T x)
def kidsK (h : Hp) (az : List AT) (K : AV) (T : Nat → Option TO) : Prop := az = [] ∧ K = .v (.slice none 0 0) ∨ ∃ tk, az ≠ [] ∧ K = .row 1 (az.map fun a => [.ptr a.id 0]) (some tk) ∧ T tk = some (.tail az.length) ∧ h.T tk = none
def NewR (X : RK) (d : Nat) (t : LT) (h : Hp) (r : AV) (h' : Hp) : Prop :=
  ∃ a, r = .ptr a.id 0 ∧ RAt X h' d t a (ps0 t) ∧ Sep d a ∧ (∀ i ∈ idsT a, h.H i = none) ∧ (∀ c ∈ toksT a, h.T c = none) ∧ (∀ i, h.H i ≠ none → h'.H i = h.H i) ∧ (∀ k, h.T k ≠ none → h'.T k = h.T k)
theorem getD_snoc {α : Type} (l : List α) (x d : α) (j : Nat) : (l ++ [x]).getD j d = if j = l.length then x else l.getD j d := by
  simp only [List.getD_eq_getElem?_getD]
  split
  · rename_i h; subst h; simp
  · rename_i h
    by_cases hj : j < l.length
    · rw [List.getElem?_append_left hj]
    · rw [List.getElem?_eq_none (by simp; omega), List.getElem?_eq_none (by omega)]
/-- One more kid. -/
theorem NewI.more {X : RK} {d : Nat} {kids : List LT} {h h1 h2 : Hp} {i c : Nat} {az : List AT} (hI : NewI X d kids h i c az h1) (hi0 : h.H i = none) (hi : h1.H i ≠ none) (hc : h1.T c ≠ none) {a : AT}
    (hR : RAt X h2 d (kids.getD az.length default) a (ps0 (kids.getD az.length default))) (hS : Sep d a) (hn1 : ∀ x ∈ idsT a, h1.H x = none) (hn2 : ∀ x ∈ toksT a, h1.T x = none) (hk1 : ∀ x, h1.H x ≠ none → x ≠ i → h2.H x = h1.H x) (hk2 : ∀ x xs, h1.T x = some (.cont 1 xs) → h2.T x = h1.T x) (hk3 : ∀ x, h.T x ≠ none → h2.T x = h.T x) : NewI X d kids h i c (az ++ [a]) h2 := by
  obtain ⟨g1, g2, g3, g4⟩ := hI
  have o1 : ∀ x, h1.H x = none → h.H x = none := fun x hx => by
    cases e : h.H x with
    | none => rfl
    | some y => have := g3 x (by rw [e]; simp); rw [hx, e] at this; cases this
  have o2 : ∀ x, h1.T x = none → h.T x = none := fun x hx => by
    cases e : h.T x with
    | none => rfl
    | some y => have := g4 x (by rw [e]; simp); rw [hx, e] at this; cases this
  refine ⟨fun l hl => ?_, fun j l hj hl hne => ?_, fun x hx => (hk1 x (by rw [g3 x hx]; exact hx) (fun e => by subst e; exact hx hi0)).trans (g3 x hx), hk3⟩
  · rw [getD_snoc]
    split
    · rename_i e
      subst e
      exact ⟨hR, ⟨fun hx => hi (hn1 _ hx), fun hx => hc (hn2 _ hx), hS⟩, fun x hx => o1 x (hn1 x hx), fun x hx => o2 x (hn2 x hx)⟩
    · rename_i e
      obtain ⟨f1, f2, f3, f4⟩ := g1 l (by simp at hl; omega)
      exact ⟨f1.frame (fun x hx => hk1 x (f1.ne.1 x hx) (fun e => by subst e; exact f2.1 hx)) (fun x hx => let ⟨xs, e⟩ := f1.cont x hx; hk2 x xs e), f2, f3, f4⟩
  · simp only [List.length_append, List.length_cons, List.length_nil] at hj hl
    rw [getD_snoc, getD_snoc]
    split <;> split
    · omega
    · have f1 := (g1 l (by omega)).1
      exact ⟨fun x hx hx2 => f1.ne.1 x hx2 (hn1 x hx), fun x hx hx2 => f1.ne.2 x hx2 (hn2 x hx)⟩
    · have f1 := (g1 j (by omega)).1
      exact ⟨fun x hx hx2 => f1.ne.1 x hx (hn1 x hx2), fun x hx hx2 => f1.ne.2 x hx (hn2 x hx2)⟩
    · exact g2 j l (by omega) (by omega) hne
def NewRI (d : Nat) (kind : Int) (item : ByteArray) (long many : Int) (kids : List LT) (shares : List Int) (h : Hp) (i c : Nat) (g : Nat) (s : St) : Prop :=
  ∃ (az : List AT) (K : AV) (h' : Hp), g + az.length = kids.length ∧ NewI XR d kids h i c az h' ∧ kidsK h az K h'.T ∧ h'.H i = some (.cells (cells9 kind item long many kids shares K 0 c)) ∧ h'.T c = some (.cont 1 ((kids.map fun _ => (0 : Int)).map encI)) ∧
    s = ⟨((jnk 3 ((.ptr i 0) :: (jnk 10 ((.row 6 (kids.map encL) none) :: (.v (.int .i64 kids.length)) :: (.v (.int .i64 az.length)) :: (jnk 16 [])))))), [], h'⟩
theorem g_newRunner : ∀ (d : Nat) (t : LT) (h : Hp), LC d t → ACalls Tryd.prog 29 [.agg (encL t)] h (NewR XR d t h)
  | 0, _, _, hb => hb.elim
  | d + 1, .mk kind item long many kids shares, h, hb => by
    obtain ⟨b1, b2, b3, b4, b5, b6, b7, b8⟩ := id hb
    simp only [encL_eq]
    refine acalls_of tyok Tryd.func29 rfl (by kernel_rfl) fun c => ?_; simp only [Tryd.ntmps29, List.length_cons, List.length_nil, Nat.reduceAdd, Nat.reduceSub, jnk_rep, List.cons_append, List.nil_append]
    refine ru29SNewR @Int.toNat_natCast ?_; (repeat' (with_reducible refine AndQ.mk ?_ ?_)); (all_goals (try ((with_reducible refine kin ?_); intro K1 hK1)))
    intro c0 hc0
    refine hK1 _ ?_; clear hK1 K1
    refine ru29SNewR @Int.toNat_natCast ?_; (repeat' (with_reducible refine AndQ.mk ?_ ?_)); (all_goals (try ((with_reducible refine kin ?_); intro K1 hK1)))
    intro i hi
    refine hK1 _ ?_; clear hK1 K1
    refine ru29SNewR @Int.toNat_natCast ?_; (repeat' (with_reducible refine AndQ.mk ?_ ?_)); (all_goals (try ((with_reducible refine kin ?_); intro K1 hK1)))
    have hrep : List.replicate kids.length [AV.v (.int .i64 0)] = (kids.map fun _ => (0 : Int)).map encI := by
      rw [List.map_map, ← List.map_const]; rfl
    refine awp_loopC (rl false [3, 1, 10, 3, 16]) 0 (fun g s => NewRI d kind item long many kids shares h i c0 g s) kids.length ⟨[], _, _, by simp, ⟨fun l hl => by simp at hl, fun j l hj => by simp at hj, fun x hx => upd_other _ _ (fun e => by subst e; exact hx hi), fun x hx => upd_other _ _ (fun e => by subst e; exact hx hc0)⟩, .inl ⟨rfl, rfl⟩, upd_same _ _ _, by rw [← hrep]; exact upd_same _ _ _, rfl⟩ ?_
    rintro g _ ⟨az, K, h', hg, hI, hK, hH, hT, rfl⟩
    have hH0 : h'.H i = some (.cells [.v (.int .i64 kind), .v (.string item), .v (.int .i64 long), .v (.int .i64 many), .row 6 (kids.map encL) none, .row 1 (shares.map encI) none, K, .v (.int .i64 0), .arr 1 c0 kids.length]) := hH
    refine ru29SNewR trivial ?_; (repeat' (with_reducible refine AndQ.mk ?_ ?_)); (all_goals (try ((with_reducible refine kin ?_); intro K1 hK1)))
    refine awp_cond (t := _) rfl (fun h6 => ?_) (fun h6 => ?_)
    · simp only [decide_eq_true_eq] at h6
      have hjk : az.length < kids.length := by omega
      have hge : (kids.map encL).getD az.length [] = encL (kids.getD az.length default) := getD_enc encL kids az.length default hjk
      have hmem := getD_mem' kids az.length default hjk
      have hbt := b8 _ hmem
      have hlen := encL_len (kids.getD az.length default)
      have htk : List.take 6 (encL (kids.getD az.length default)) = encL (kids.getD az.length default) := List.take_of_length_le (Nat.le_of_eq hlen)
      have hdr : List.drop 6 (encL (kids.getD az.length default)) = [] := List.drop_of_length_le (Nat.le_of_eq hlen)
      obtain ⟨jn, hjn⟩ : ∃ jn, az.length = jn := ⟨_, rfl⟩
      rw [hjn] at hjk hge hmem hbt hlen htk hdr h6 hg ⊢
      rcases hK with ⟨rfl, rfl⟩ | ⟨tk, hne, rfl, htkT, htk0⟩
      · refine ru29SNewR (And.intro @Int.toNat_natCast (And.intro hge (And.intro hlen (And.intro htk (And.intro hdr hH0))))) ?_; (repeat' (with_reducible refine AndQ.mk ?_ ?_)); (all_goals (try ((with_reducible refine kin ?_); intro K1 hK1)))
        refine (g_newRunner d (kids.getD jn default) h' hbt).mono ?_
        rintro _ h2 ⟨a, rfl, hR, hS, hn1, hn2, hk1, hk2⟩
        have hH2 := (hk1 i (by rw [hH0]; simp)).trans hH0
        have hT2 := (hk2 c0 (by rw [hT]; simp)).trans hT
        refine hK1 _ ?_; clear hK1 K1
        refine ru29SNewR (And.intro @Int.toNat_natCast (And.intro hge (And.intro hlen (And.intro htk (And.intro hdr hH2))))) ?_; (repeat' (with_reducible refine AndQ.mk ?_ ?_)); (all_goals (try ((with_reducible refine kin ?_); intro K1 hK1)))
        intro tk htkn
        refine hK1 _ ?_; clear hK1 K1
        replace htkn : h2.T tk = none := htkn
        refine ru29SNewR (And.intro @Int.toNat_natCast (And.intro hge (And.intro hlen (And.intro htk (And.intro hdr hH2))))) ?_; (repeat' (with_reducible refine AndQ.mk ?_ ?_)); (all_goals (try ((with_reducible refine kin ?_); intro K1 hK1)))
        have htk1 : h'.T tk = none := Classical.byContradiction fun hn => by have := hk2 tk hn; rw [htkn] at this; exact hn this.symm
        have htk0 : h.T tk = none := Classical.byContradiction fun hn => by have := hI.2.2.2 tk hn; rw [htk1] at this; exact hn this.symm
        have hfr : ∀ (Y : AO) (n : Nat) (tk : Nat), (∀ xs, h2.T tk ≠ some (.cont 1 xs)) → RAt XR { H := upd h2.H i (some Y), T := upd h2.T tk (some (.tail n)) } d (kids.getD jn default) a (ps0 (kids.getD jn default)) := fun Y n tk htk => hR.frame (fun x hx => upd_other _ _ (fun e => by subst e; exact absurd (hn1 _ hx) (by rw [hH0]; simp))) (fun x hx => upd_other _ _ (fun e => by subst e; obtain ⟨xs, e2⟩ := hR.cont _ hx; exact htk xs e2))
        refine ⟨g - 1, by omega, ([] : List AT) ++ [a], .row 1 ((([] : List AT) ++ [a]).map fun a => [.ptr a.id 0]) (some tk), { H := upd h2.H i (some (.cells (cells9 kind item long many kids shares (.row 1 ((([] : List AT) ++ [a]).map fun a => [.ptr a.id 0]) (some tk)) 0 c0))), T := upd h2.T tk (some (.tail 1)) }, by simp at hjn hg ⊢; omega, NewI.more (c := c0) (az := ([] : List AT)) hI hi (by rw [hH0]; simp) (by rw [hT]; simp) (by rw [hjn]; exact hfr _ 1 tk (fun xs e => by rw [htkn] at e; cases e)) hS hn1 hn2 (fun x hx hxi => (upd_other _ _ hxi).trans (hk1 x hx)) (fun x xs hx => (upd_other _ _ (fun e => by subst e; exact (by have := hk2 _ (show h'.T _ ≠ none by rw [hx]; simp); rw [hx, htkn] at this; cases this))).trans (hk2 x (by rw [hx]; simp))) (fun x hx => (upd_other _ _ (fun e => by subst e; exact hx htk0)).trans ((hk2 x (by rw [hI.2.2.2 x hx]; exact hx)).trans (hI.2.2.2 x hx))),
          .inr ⟨tk, by simp, rfl, by rw [show (([] : List AT) ++ [a]).length = 1 from rfl]; exact upd_same _ _ _, htk0⟩, upd_same _ _ _, (upd_other _ _ (fun e => by subst e; exact (by rw [hT2] at htkn; cases htkn))).trans hT2, by subst hjn; rfl⟩
      · refine ru29SNewR (And.intro @Int.toNat_natCast (And.intro hge (And.intro hlen (And.intro htk (And.intro hdr hH0))))) ?_; (repeat' (with_reducible refine AndQ.mk ?_ ?_)); (all_goals (try ((with_reducible refine kin ?_); intro K1 hK1)))
        refine (g_newRunner d (kids.getD jn default) h' hbt).mono ?_
        rintro _ h2 ⟨a, rfl, hR, hS, hn1, hn2, hk1, hk2⟩
        have hH2 := (hk1 i (by rw [hH0]; simp)).trans hH0
        have hT2 := (hk2 c0 (by rw [hT]; simp)).trans hT
        refine hK1 _ ?_; clear hK1 K1
        have htk2 := (hk2 tk (by rw [htkT]; simp)).trans htkT
        refine ru29SNewR (And.intro @Int.toNat_natCast (And.intro hge (And.intro hlen (And.intro htk (And.intro hdr (And.intro hH2 htk2)))))) ?_; (repeat' (with_reducible refine AndQ.mk ?_ ?_)); (all_goals (try ((with_reducible refine kin ?_); intro K1 hK1)))
        have hfr : ∀ (Y : AO) (n : Nat) (tk : Nat), (∀ xs, h2.T tk ≠ some (.cont 1 xs)) → RAt XR { H := upd h2.H i (some Y), T := upd h2.T tk (some (.tail n)) } d (kids.getD jn default) a (ps0 (kids.getD jn default)) := fun Y n tk htk => hR.frame (fun x hx => upd_other _ _ (fun e => by subst e; exact absurd (hn1 _ hx) (by rw [hH0]; simp))) (fun x hx => upd_other _ _ (fun e => by subst e; obtain ⟨xs, e2⟩ := hR.cont _ hx; exact htk xs e2))
        have hrow : az.map (fun a : AT => [AV.ptr a.id 0]) ++ [[AV.ptr a.id 0]] = (az ++ [a]).map (fun a : AT => [AV.ptr a.id 0]) := by simp
        rw [hrow]
        refine ⟨g - 1, by omega, az ++ [a], .row 1 ((az ++ [a]).map fun a => [.ptr a.id 0]) (some tk), { H := upd h2.H i (some (.cells (cells9 kind item long many kids shares (.row 1 ((az ++ [a]).map fun a => [.ptr a.id 0]) (some tk)) 0 c0))), T := upd h2.T tk (some (.tail (az.length + 1))) }, by simp at hjn hg ⊢; omega, NewI.more (c := c0) (az := az) hI hi (by rw [hH0]; simp) (by rw [hT]; simp) (by rw [hjn]; exact hfr _ (jn + 1) tk (fun xs e => by rw [htk2] at e; cases e)) hS hn1 hn2 (fun x hx hxi => (upd_other _ _ hxi).trans (hk1 x hx)) (fun x xs hx => (upd_other _ _ (fun e => by subst e; exact (by rw [htkT] at hx; cases hx))).trans (hk2 x (by rw [hx]; simp))) (fun x hx => (upd_other _ _ (fun e => by subst e; exact hx htk0)).trans ((hk2 x (by rw [hI.2.2.2 x hx]; exact hx)).trans (hI.2.2.2 x hx))),
          .inr ⟨tk, by simp, rfl, by rw [show (az ++ [a]).length = az.length + 1 by simp]; exact upd_same _ _ _, htk0⟩, upd_same _ _ _, (upd_other _ _ (fun e => by subst e; exact (by rw [hT2] at htk2; cases htk2))).trans hT2, by rw [show ((az ++ [a]).length : Int) = (jn : Int) + 1 by simp; omega]; rfl⟩
    · simp only [decide_eq_false_iff_not] at h6
      have hjk : az.length = kids.length := by omega
      refine ru29SNewR trivial ?_; (repeat' (with_reducible refine AndQ.mk ?_ ?_)); (all_goals (try ((with_reducible refine kin ?_); intro K1 hK1)))
      refine rtG Tryd.results29 ?_
      obtain ⟨g1, g2, g3, g4⟩ := hI
      refine ⟨_, _, Weak.refl _, Hp.le.refl _, .mk i c0 az, rfl, ?_, ?_, ?_, ?_, g3, g4⟩
      · rw [ps0_eq]
        refine ⟨⟨K, hH, ?_⟩, hT, by simp [XR]; omega, fun j hj => ?_⟩
        · rcases hK with ⟨rfl, rfl⟩ | ⟨tk, _, rfl, _, _⟩
          · exact .inl ⟨rfl, rfl⟩
          · exact .inr ⟨some tk, rfl⟩
        · have e : (kids.map ps0).getD j default = ps0 (kids.getD j default) := by
            rw [List.getD_eq_getElem?_getD, List.getD_eq_getElem?_getD, List.getElem?_map, List.getElem?_eq_getElem hj]; rfl
          rw [e]; exact (g1 j (by omega)).1
      · exact fun j hj => ⟨(g1 j hj).2.1, fun l hl hne => g2 j l hj hl hne⟩
      · intro x hx
        rcases mem_idsT hx with rfl | ⟨j, hj, hx⟩
        · exact hi
        · exact (g1 j hj).2.2.1 x hx
      · intro x hx
        rcases mem_toksT hx with rfl | ⟨j, hj, hx⟩
        · exact hc0
        · exact (g1 j hj).2.2.2 x hx
end Go.Proofs.YtoleejecmefogaaDoor
/- loop.newPart. -/
namespace Go.Proofs.YtoleejecmefogaaDoor
open Go
set_option maxRecDepth 100000
set_option maxHeartbeats 8000000
theorem ru26SNewP {P Q X : Prop} (x : X) (q : Q) (h : X → Hold Q → P := by intro x0 q0; (repeat (first | (with_reducible refine awp_block ?_) | (with_reducible refine vRem_nil ?_) | (with_reducible refine vRst_nil ?_) | ((with_reducible refine vRem_id ?_); refine vRem_nil ?_) | ((first | ((with_reducible refine awp_idS (b := false) ?_); refine awp_seqR2 tyok (mdL [(5, 1), (14, 2)]) fun KN hKN => ?_) | ((with_reducible refine awp_idR (b := false) ?_); refine awp_region2 tyok (mdL [(5, 1), (14, 2)]) fun KN hKN => ?_) | ((with_reducible refine vRem_id ?_); refine vRem_go fun KN hKN => ?_) | ((with_reducible refine vRst_id ?_); refine vRst_go fun KN hKN => ?_) | ((with_reducible refine vMid_id ?_); refine vMid_go ?_ fun KN hKN => ?_) | ((with_reducible refine awp_idS (b := true) ?_); refine awp_seqD2 (id := 1) tyok (by kernel_rfl) (mdL [(5, 1), (14, 2)]) (E0 := [0, 1, 2, 3]) (pl := [(4, [0], [5]), (6, [], [7])]) 51 rfl (by kernel_rfl) fun KN hKN => ?_) | ((with_reducible refine awp_idR (b := true) ?_); refine awp_draw2 (id := 1) tyok (by kernel_rfl) (mdL [(5, 1), (14, 2)]) (E0 := [0, 1, 2, 3]) (pl := [(4, [0], [5]), (6, [], [7])]) 51 rfl (by kernel_rfl) fun KN hKN => ?_) | ((with_reducible refine awp_idS (b := true) ?_); refine awp_seqD2 (id := 5) tyok (by kernel_rfl) (mdL [(5, 1), (14, 2)]) (E0 := [0, 1, 2, 3, 4, 5]) (pl := [(6, [4], [7]), (8, [], [9, 10]), (11, [], [])]) 51 rfl (by kernel_rfl) fun KN hKN => ?_) | ((with_reducible refine awp_idR (b := true) ?_); refine awp_draw2 (id := 5) tyok (by kernel_rfl) (mdL [(5, 1), (14, 2)]) (E0 := [0, 1, 2, 3, 4, 5]) (pl := [(6, [4], [7]), (8, [], [9, 10]), (11, [], [])]) 51 rfl (by kernel_rfl) fun KN hKN => ?_)) <;> (simp only [vOps, jnk_zero, jnk_jnk, getD_jnk_lt, getD_jnk_ge, set_jnk_lt, set_jnk_ge, Nat.reduceSub, Nat.reduceLT, Nat.reduceLeDiff, gStep, condG, qV, binV, vV, iV, sV, bV, nV, arV, pickE, joinA, joinOk, isOpt, vEff, binE, vBin, iBin, sBin, arith, nilOf, nBin, boolOk, convI, storeE, newE, sliceE, appE, lenE, minE, biE, bndE, cellsAt, ldOk, ld, TyD.isAgg, AV.shift, AV.isAddr, AV.cellsB, AV.noLoc, rowOf, litRow, fillA, opS, uside, unw, evL, cv, St.put, opsOf, Value.oneCell', vIdx, stepI, vRest, reL, reI, mdL, splice, bef, aft, isCallB, isCallV, ↓reduceIte, Nat.reduceAdd, reduceCtorEq, Nat.reduceEqDiff, Nat.reduceMul, lemA, lemT, x0]; (try and_intros); (all_goals first | (refine hKN _ ?_; clear hKN KN) | (first | exact True.intro | (intros; first | exact True.intro | (with_reducible assumption) | omega | (with_reducible rfl) | (with_reducible decide) | (simp_all; done) | (simp_all; omega))) | skip))) | (with_reducible refine awp_seq ?_) | (with_reducible refine awp_skip ?_) | (with_reducible refine awp_exit ?_) | (with_reducible refine thenQ_normal ?_) | (with_reducible refine inBlock_normal ?_) | (with_reducible refine thenQ_exit ?_) | (with_reducible refine inBlock_exit ?_) | (with_reducible refine inBlock_other (by decide) ?_))); (all_goals (try revert KN)); first | (exact q0.out; done) | (apply Hold.fst; exact q0; apply Hold.snd; exact q0; done) | (apply Hold.a; exact q0; apply Hold.b; exact q0; apply Hold.c; exact q0; done) | (apply Hold.a4; exact q0; apply Hold.b4; exact q0; apply Hold.c4; exact q0; apply Hold.d4; exact q0; done)) : P := h x ⟨q⟩
theorem rr26SNewP {P Q X : Prop} (x : X) (q : Q) (h : X → Hold Q → P := by intro x0 q0; (repeat (first | (with_reducible refine awp_block ?_) | (with_reducible refine vRem_nil ?_) | (with_reducible refine vRst_nil ?_) | ((with_reducible refine vRem_id ?_); refine vRem_nil ?_) | ((first | ((with_reducible refine awp_idS (b := false) ?_); refine awp_seqR2 tyok (mdL [(5, 1), (14, 2)]) fun KN hKN => ?_) | ((with_reducible refine awp_idR (b := false) ?_); refine awp_region2 tyok (mdL [(5, 1), (14, 2)]) fun KN hKN => ?_) | ((with_reducible refine vRem_id ?_); refine vRem_go fun KN hKN => ?_) | ((with_reducible refine vRst_id ?_); refine vRst_go fun KN hKN => ?_) | ((with_reducible refine vMid_id ?_); refine vMid_go ?_ fun KN hKN => ?_) | ((with_reducible refine awp_idS (b := true) ?_); refine awp_seqD2 (id := 1) tyok (by kernel_rfl) (mdL [(5, 1), (14, 2)]) (E0 := [0, 1, 2, 3]) (pl := [(4, [0], [5]), (6, [], [7])]) 51 rfl (by kernel_rfl) fun KN hKN => ?_) | ((with_reducible refine awp_idR (b := true) ?_); refine awp_draw2 (id := 1) tyok (by kernel_rfl) (mdL [(5, 1), (14, 2)]) (E0 := [0, 1, 2, 3]) (pl := [(4, [0], [5]), (6, [], [7])]) 51 rfl (by kernel_rfl) fun KN hKN => ?_) | ((with_reducible refine awp_idS (b := true) ?_); refine awp_seqD2 (id := 5) tyok (by kernel_rfl) (mdL [(5, 1), (14, 2)]) (E0 := [0, 1, 2, 3, 4, 5]) (pl := [(6, [4], [7]), (8, [], [9, 10]), (11, [], [])]) 51 rfl (by kernel_rfl) fun KN hKN => ?_) | ((with_reducible refine awp_idR (b := true) ?_); refine awp_draw2 (id := 5) tyok (by kernel_rfl) (mdL [(5, 1), (14, 2)]) (E0 := [0, 1, 2, 3, 4, 5]) (pl := [(6, [4], [7]), (8, [], [9, 10]), (11, [], [])]) 51 rfl (by kernel_rfl) fun KN hKN => ?_)) <;> (simp only [vOps, jnk_zero, jnk_jnk, getD_jnk_lt, getD_jnk_ge, set_jnk_lt, set_jnk_ge, Nat.reduceSub, Nat.reduceLT, Nat.reduceLeDiff, gStep, condG, qV, binV, vV, iV, sV, bV, nV, arV, pickE, joinA, joinOk, isOpt, vEff, binE, vBin, iBin, sBin, arith, nilOf, nBin, boolOk, convI, storeE, newE, sliceE, appE, lenE, minE, biE, bndE, cellsAt, ldOk, ld, TyD.isAgg, AV.shift, AV.isAddr, AV.cellsB, AV.noLoc, rowOf, litRow, fillA, opS, uside, unw, evL, cv, St.put, opsOf, Value.oneCell', vIdx, stepI, vRest, reL, reI, mdL, splice, bef, aft, isCallB, isCallV, ↓reduceIte, Nat.reduceAdd, reduceCtorEq, Nat.reduceEqDiff, Nat.reduceMul, lemA, lemT, x0]; (try and_intros); (all_goals first | (refine hKN _ ?_; clear hKN KN) | (first | exact True.intro | (intros; first | exact True.intro | (with_reducible assumption) | omega | (with_reducible rfl) | (with_reducible decide) | (simp_all; done) | (simp_all; omega))) | skip))) | (with_reducible refine awp_skip ?_) | (with_reducible refine awp_exit ?_) | (with_reducible refine thenQ_normal ?_) | (with_reducible refine inBlock_normal ?_) | (with_reducible refine thenQ_exit ?_) | (with_reducible refine inBlock_exit ?_) | (with_reducible refine inBlock_other (by decide) ?_))); (all_goals (try revert KN)); first | (exact q0.out; done) | (apply Hold.fst; exact q0; apply Hold.snd; exact q0; done) | (apply Hold.a; exact q0; apply Hold.b; exact q0; apply Hold.c; exact q0; done) | (apply Hold.a4; exact q0; apply Hold.b4; exact q0; apply Hold.c4; exact q0; apply Hold.d4; exact q0; done)) : P := h x ⟨q⟩
def XP : RK := ⟨fun t => match t with | .mk _ _ _ _ _ shares => [.v (.int .i64 shares.sum)], fun kind cs => if kind = 4 then cs else List.replicate cs.length 0⟩
theorem upd_self {α : Type} {f : Nat → Option α} {i : Nat} {x : Option α} (h : f i = x) : upd f i x = f := by
  funext j
  by_cases hj : j = i
  · subst hj; rw [upd_same, h]
  · rw [upd_other _ _ hj]
theorem sum_nb : ∀ (l : List Int), (∀ x ∈ l, NB x) → -(l.length * 5000000000000000) ≤ l.sum ∧ l.sum ≤ l.length * 5000000000000000
  | [], _ => by simp
  | x :: l, h => by
    have h1 := h x (by simp)
    have h2 := sum_nb l fun y hy => h y (by simp [hy])
    unfold NB at h1
    simp only [List.sum_cons, List.length_cons]
    omega
def NewPI (d : Nat) (kind : Int) (item : ByteArray) (long many : Int) (kids : List LT) (shares : List Int) (h : Hp) (i c : Nat) (g : Nat) (s : St) : Prop :=
  ∃ (az : List AT) (K : AV) (h' : Hp), g + az.length = kids.length ∧ NewI XP d kids h i c az h' ∧ kidsK h az K h'.T ∧ h'.H i = some (.cells (cells9 kind item long many kids shares K 0 c ++ [.v (.int .i64 0)])) ∧ h'.T c = some (.cont 1 ((kids.map fun _ => (0 : Int)).map encI)) ∧
    s = ⟨(AV.junk :: ((.ref [.v (.int .i64 kind), .v (.string item), .v (.int .i64 long), .v (.int .i64 many), .row 6 (kids.map encL) none, .row 1 (shares.map encI) none] 0) :: AV.junk :: ((.ptr i 0) :: (jnk 12 ((.row 6 (kids.map encL) none) :: (.v (.int .i64 kids.length)) :: (.v (.int .i64 az.length)) :: (jnk 32 [])))))), [], h'⟩
theorem g_newPart : ∀ (d : Nat) (t : LT) (h : Hp), LC d t → ACalls Tryd.prog 26 [.agg (encL t)] h (NewR XP d t h)
  | 0, _, _, hb => hb.elim
  | d + 1, .mk kind item long many kids shares, h, hb => by
    obtain ⟨b1, b2, b3, b4, b5, b6, b7, b8⟩ := id hb
    simp only [encL_eq]
    refine acalls_of tyok Tryd.func26 rfl (by kernel_rfl) fun c => ?_; simp only [Tryd.ntmps26, List.length_cons, List.length_nil, Nat.reduceAdd, Nat.reduceSub, jnk_rep, List.cons_append, List.nil_append]
    refine ru26SNewP @Int.toNat_natCast ?_; (repeat' (with_reducible refine AndQ.mk ?_ ?_)); (all_goals (try ((with_reducible refine kin ?_); intro K1 hK1)))
    intro c0 hc0
    refine hK1 _ ?_; clear hK1 K1
    refine ru26SNewP @Int.toNat_natCast ?_; (repeat' (with_reducible refine AndQ.mk ?_ ?_)); (all_goals (try ((with_reducible refine kin ?_); intro K1 hK1)))
    intro i hi
    refine hK1 _ ?_; clear hK1 K1
    refine ru26SNewP @Int.toNat_natCast ?_; (repeat' (with_reducible refine AndQ.mk ?_ ?_)); (all_goals (try ((with_reducible refine kin ?_); intro K1 hK1)))
    have hrep : List.replicate kids.length [AV.v (.int .i64 0)] = (kids.map fun _ => (0 : Int)).map encI := by
      rw [List.map_map, ← List.map_const]; rfl
    refine awp_loopC (rl false [1, 1, 1, 1, 12, 3, 32]) 0 (fun g s => NewPI d kind item long many kids shares h i c0 g s) kids.length ⟨[], _, _, by simp, ⟨fun l hl => by simp at hl, fun j l hj => by simp at hj, fun x hx => upd_other _ _ (fun e => by subst e; exact hx hi), fun x hx => upd_other _ _ (fun e => by subst e; exact hx hc0)⟩, .inl ⟨rfl, rfl⟩, upd_same _ _ _, by rw [← hrep]; exact upd_same _ _ _, rfl⟩ ?_
    rintro g _ ⟨az, K, h', hg, hI, hK, hH, hT, rfl⟩
    have hH0 : h'.H i = some (.cells [.v (.int .i64 kind), .v (.string item), .v (.int .i64 long), .v (.int .i64 many), .row 6 (kids.map encL) none, .row 1 (shares.map encI) none, K, .v (.int .i64 0), .arr 1 c0 kids.length, .v (.int .i64 0)]) := hH
    refine ru26SNewP trivial ?_; (repeat' (with_reducible refine AndQ.mk ?_ ?_)); (all_goals (try ((with_reducible refine kin ?_); intro K1 hK1)))
    refine awp_cond (t := _) rfl (fun h6 => ?_) (fun h6 => ?_)
    · simp only [decide_eq_true_eq] at h6
      have hjk : az.length < kids.length := by omega
      have hge : (kids.map encL).getD az.length [] = encL (kids.getD az.length default) := getD_enc encL kids az.length default hjk
      have hmem := getD_mem' kids az.length default hjk
      have hbt := b8 _ hmem
      have hlen := encL_len (kids.getD az.length default)
      have htk : List.take 6 (encL (kids.getD az.length default)) = encL (kids.getD az.length default) := List.take_of_length_le (Nat.le_of_eq hlen)
      have hdr : List.drop 6 (encL (kids.getD az.length default)) = [] := List.drop_of_length_le (Nat.le_of_eq hlen)
      obtain ⟨jn, hjn⟩ : ∃ jn, az.length = jn := ⟨_, rfl⟩
      rw [hjn] at hjk hge hmem hbt hlen htk hdr h6 hg ⊢
      rcases hK with ⟨rfl, rfl⟩ | ⟨tk, hne, rfl, htkT, htk0⟩
      · refine ru26SNewP (And.intro @Int.toNat_natCast (And.intro hge (And.intro hlen (And.intro htk (And.intro hdr hH0))))) ?_; (repeat' (with_reducible refine AndQ.mk ?_ ?_)); (all_goals (try ((with_reducible refine kin ?_); intro K1 hK1)))
        refine (g_newPart d (kids.getD jn default) h' hbt).mono ?_
        rintro _ h2 ⟨a, rfl, hR, hS, hn1, hn2, hk1, hk2⟩
        have hH2 := (hk1 i (by rw [hH0]; simp)).trans hH0
        have hT2 := (hk2 c0 (by rw [hT]; simp)).trans hT
        refine hK1 _ ?_; clear hK1 K1
        refine ru26SNewP (And.intro @Int.toNat_natCast (And.intro hge (And.intro hlen (And.intro htk (And.intro hdr hH2))))) ?_; (repeat' (with_reducible refine AndQ.mk ?_ ?_)); (all_goals (try ((with_reducible refine kin ?_); intro K1 hK1)))
        intro tk htkn
        refine hK1 _ ?_; clear hK1 K1
        replace htkn : h2.T tk = none := htkn
        refine ru26SNewP (And.intro @Int.toNat_natCast (And.intro hge (And.intro hlen (And.intro htk (And.intro hdr hH2))))) ?_; (repeat' (with_reducible refine AndQ.mk ?_ ?_)); (all_goals (try ((with_reducible refine kin ?_); intro K1 hK1)))
        have htk1 : h'.T tk = none := Classical.byContradiction fun hn => by have := hk2 tk hn; rw [htkn] at this; exact hn this.symm
        have htk0 : h.T tk = none := Classical.byContradiction fun hn => by have := hI.2.2.2 tk hn; rw [htk1] at this; exact hn this.symm
        have hfr : ∀ (Y : AO) (n : Nat) (tk : Nat), (∀ xs, h2.T tk ≠ some (.cont 1 xs)) → RAt XP { H := upd h2.H i (some Y), T := upd h2.T tk (some (.tail n)) } d (kids.getD jn default) a (ps0 (kids.getD jn default)) := fun Y n tk htk => hR.frame (fun x hx => upd_other _ _ (fun e => by subst e; exact absurd (hn1 _ hx) (by rw [hH0]; simp))) (fun x hx => upd_other _ _ (fun e => by subst e; obtain ⟨xs, e2⟩ := hR.cont _ hx; exact htk xs e2))
        refine ⟨g - 1, by omega, ([] : List AT) ++ [a], .row 1 ((([] : List AT) ++ [a]).map fun a => [.ptr a.id 0]) (some tk), { H := upd h2.H i (some (.cells (cells9 kind item long many kids shares (.row 1 ((([] : List AT) ++ [a]).map fun a => [.ptr a.id 0]) (some tk)) 0 c0 ++ [.v (.int .i64 0)]))), T := upd h2.T tk (some (.tail 1)) }, by simp at hjn hg ⊢; omega, NewI.more (c := c0) (az := ([] : List AT)) hI hi (by rw [hH0]; simp) (by rw [hT]; simp) (by rw [hjn]; exact hfr _ 1 tk (fun xs e => by rw [htkn] at e; cases e)) hS hn1 hn2 (fun x hx hxi => (upd_other _ _ hxi).trans (hk1 x hx)) (fun x xs hx => (upd_other _ _ (fun e => by subst e; exact (by have := hk2 _ (show h'.T _ ≠ none by rw [hx]; simp); rw [hx, htkn] at this; cases this))).trans (hk2 x (by rw [hx]; simp))) (fun x hx => (upd_other _ _ (fun e => by subst e; exact hx htk0)).trans ((hk2 x (by rw [hI.2.2.2 x hx]; exact hx)).trans (hI.2.2.2 x hx))),
          .inr ⟨tk, by simp, rfl, by rw [show (([] : List AT) ++ [a]).length = 1 from rfl]; exact upd_same _ _ _, htk0⟩, upd_same _ _ _, (upd_other _ _ (fun e => by subst e; exact (by rw [hT2] at htkn; cases htkn))).trans hT2, by subst hjn; rfl⟩
      · refine ru26SNewP (And.intro @Int.toNat_natCast (And.intro hge (And.intro hlen (And.intro htk (And.intro hdr hH0))))) ?_; (repeat' (with_reducible refine AndQ.mk ?_ ?_)); (all_goals (try ((with_reducible refine kin ?_); intro K1 hK1)))
        refine (g_newPart d (kids.getD jn default) h' hbt).mono ?_
        rintro _ h2 ⟨a, rfl, hR, hS, hn1, hn2, hk1, hk2⟩
        have hH2 := (hk1 i (by rw [hH0]; simp)).trans hH0
        have hT2 := (hk2 c0 (by rw [hT]; simp)).trans hT
        refine hK1 _ ?_; clear hK1 K1
        have htk2 := (hk2 tk (by rw [htkT]; simp)).trans htkT
        refine ru26SNewP (And.intro @Int.toNat_natCast (And.intro hge (And.intro hlen (And.intro htk (And.intro hdr (And.intro hH2 htk2)))))) ?_; (repeat' (with_reducible refine AndQ.mk ?_ ?_)); (all_goals (try ((with_reducible refine kin ?_); intro K1 hK1)))
        have hfr : ∀ (Y : AO) (n : Nat) (tk : Nat), (∀ xs, h2.T tk ≠ some (.cont 1 xs)) → RAt XP { H := upd h2.H i (some Y), T := upd h2.T tk (some (.tail n)) } d (kids.getD jn default) a (ps0 (kids.getD jn default)) := fun Y n tk htk => hR.frame (fun x hx => upd_other _ _ (fun e => by subst e; exact absurd (hn1 _ hx) (by rw [hH0]; simp))) (fun x hx => upd_other _ _ (fun e => by subst e; obtain ⟨xs, e2⟩ := hR.cont _ hx; exact htk xs e2))
        have hrow : az.map (fun a : AT => [AV.ptr a.id 0]) ++ [[AV.ptr a.id 0]] = (az ++ [a]).map (fun a : AT => [AV.ptr a.id 0]) := by simp
        rw [hrow]
        refine ⟨g - 1, by omega, az ++ [a], .row 1 ((az ++ [a]).map fun a => [.ptr a.id 0]) (some tk), { H := upd h2.H i (some (.cells (cells9 kind item long many kids shares (.row 1 ((az ++ [a]).map fun a => [.ptr a.id 0]) (some tk)) 0 c0 ++ [.v (.int .i64 0)]))), T := upd h2.T tk (some (.tail (az.length + 1))) }, by simp at hjn hg ⊢; omega, NewI.more (c := c0) (az := az) hI hi (by rw [hH0]; simp) (by rw [hT]; simp) (by rw [hjn]; exact hfr _ (jn + 1) tk (fun xs e => by rw [htk2] at e; cases e)) hS hn1 hn2 (fun x hx hxi => (upd_other _ _ hxi).trans (hk1 x hx)) (fun x xs hx => (upd_other _ _ (fun e => by subst e; exact (by rw [htkT] at hx; cases hx))).trans (hk2 x (by rw [hx]; simp))) (fun x hx => (upd_other _ _ (fun e => by subst e; exact hx htk0)).trans ((hk2 x (by rw [hI.2.2.2 x hx]; exact hx)).trans (hI.2.2.2 x hx))),
          .inr ⟨tk, by simp, rfl, by rw [show (az ++ [a]).length = az.length + 1 by simp]; exact upd_same _ _ _, htk0⟩, upd_same _ _ _, (upd_other _ _ (fun e => by subst e; exact (by rw [hT2] at htk2; cases htk2))).trans hT2, by rw [show ((az ++ [a]).length : Int) = (jn : Int) + 1 by simp; omega]; rfl⟩
    · simp only [decide_eq_false_iff_not] at h6
      have hjk : az.length = kids.length := by omega
      have hK' : kidsC az K := by
        rcases hK with ⟨rfl, rfl⟩ | ⟨tk, _, rfl, _, _⟩
        · exact .inl ⟨rfl, rfl⟩
        · exact .inr ⟨some tk, rfl⟩
      clear hK hH0
      refine rr26SNewP trivial ?_; (repeat' (with_reducible refine AndQ.mk ?_ ?_)); (all_goals (try ((with_reducible refine kin ?_); intro K1 hK1)))
      refine awp_seq ?_
      refine ru26SNewP trivial ?_; (repeat' (with_reducible refine AndQ.mk ?_ ?_)); (all_goals (try ((with_reducible refine kin ?_); intro K1 hK1)))
      refine awp_loopC (rl false [3, 1, 31, 3, 13]) 0 (fun g s => ∃ j : Nat, g + j = shares.length ∧ s = ⟨((jnk 3 ((.ptr i 0) :: (jnk 31 ((.row 1 (shares.map encI) none) :: (.v (.int .i64 shares.length)) :: (.v (.int .i64 j)) :: (jnk 13 [])))))), [],
        { H := upd h'.H i (some (.cells (cells9 kind item long many kids shares K 0 c0 ++ [.v (.int .i64 (shares.take j).sum)]))), T := h'.T }⟩) shares.length ⟨0, by omega, ?_⟩ ?_
      · have e0 : ({ H := upd h'.H i (some (.cells (cells9 kind item long many kids shares K 0 c0 ++ [.v (.int .i64 (shares.take 0).sum)]))), T := h'.T } : Hp) = h' := by
          show (⟨upd h'.H i (some (.cells (cells9 kind item long many kids shares K 0 c0 ++ [.v (.int .i64 0)]))), h'.T⟩ : Hp) = h'
          rw [upd_self hH]
        rw [e0]; rfl
      rintro g _ ⟨j, hj, rfl⟩
      have hnb := sum_nb (shares.take j) fun x hx => b7 x (List.mem_of_mem_take hx)
      have hjl : (shares.take j).length ≤ 5 := by simp; omega
      have hH1 : (upd h'.H i (some (AO.cells (cells9 kind item long many kids shares K 0 c0 ++ [.v (.int .i64 (shares.take j).sum)])))) i = some (.cells [.v (.int .i64 kind), .v (.string item), .v (.int .i64 long), .v (.int .i64 many), .row 6 (kids.map encL) none, .row 1 (shares.map encI) none, K, .v (.int .i64 0), .arr 1 c0 kids.length, .v (.int .i64 (shares.take j).sum)]) := upd_same _ _ _
      refine ru26SNewP trivial ?_; (repeat' (with_reducible refine AndQ.mk ?_ ?_)); (all_goals (try ((with_reducible refine kin ?_); intro K1 hK1)))
      refine awp_cond (t := _) rfl (fun h7 => ?_) (fun h7 => ?_)
      · simp only [decide_eq_true_eq] at h7
        have hjs : j < shares.length := by omega
        have hgs : (shares.map encI).getD j [] = encI (shares.getD j 0) := getD_enc encI shares j 0 hjs
        have hms := b7 _ (getD_mem' shares j 0 hjs)
        have e1 : (shares.take (j + 1)).sum = (shares.take j).sum + shares.getD j 0 := by
          rw [List.take_succ, List.getD_eq_getElem?_getD, List.getElem?_eq_getElem hjs, List.sum_append]; simp only [Option.toList_some, List.sum_cons, List.sum_nil, Option.getD_some]; omega
        have hb2 : NB (shares.getD j 0) := hms
        unfold NB at hb2
        refine ru26SNewP (And.intro @Int.toNat_natCast (And.intro hgs (And.intro @encI.eq_1 @cells9.eq_1))) ?_; (repeat' (with_reducible refine AndQ.mk ?_ ?_)); (all_goals (try ((with_reducible refine kin ?_); intro K1 hK1)))
        refine ⟨g - 1, by omega, j + 1, by omega, ?_⟩
        rw [e1]; rfl
      · simp only [decide_eq_false_iff_not] at h7
        have hjs : j = shares.length := by omega
        subst hjs
        rw [List.take_length]
        refine ru26SNewP trivial ?_; (repeat' (with_reducible refine AndQ.mk ?_ ?_)); (all_goals (try ((with_reducible refine kin ?_); intro K1 hK1)))
        refine rtG Tryd.results26 ?_
        obtain ⟨g1, g2, g3, g4⟩ := hI
        refine ⟨_, _, Weak.refl _, Hp.le.refl _, .mk i c0 az, rfl, ?_, ?_, ?_, ?_, fun x hx => (upd_other _ _ (fun e => by subst e; exact hx hi)).trans (g3 x hx), g4⟩
        · rw [ps0_eq]
          have hcf : XP.cf kind (kids.map fun _ => (0 : Int)) = kids.map fun _ => (0 : Int) := by
            simp only [XP]
            split
            · rfl
            · rw [List.length_map, ← List.map_const]; rfl
          refine ⟨⟨K, upd_same _ _ _, hK'⟩, by rw [hcf]; exact hT, by rw [hcf]; simp; omega, fun j hj => ?_⟩
          have e : (kids.map ps0).getD j default = ps0 (kids.getD j default) := by
            rw [List.getD_eq_getElem?_getD, List.getD_eq_getElem?_getD, List.getElem?_map, List.getElem?_eq_getElem hj]; rfl
          rw [e]
          exact (g1 j (by omega)).1.frame (fun x hx => upd_other _ _ (fun e => by subst e; exact (g1 j (by omega)).2.1.1 hx)) (fun _ _ => rfl)
        · exact fun j hj => ⟨(g1 j hj).2.1, fun l hl hne => g2 j l hj hl hne⟩
        · intro x hx
          rcases mem_idsT hx with rfl | ⟨j, hj, hx⟩
          · exact hi
          · exact (g1 j hj).2.2.1 x hx
        · intro x hx
          rcases mem_toksT hx with rfl | ⟨j, hj, hx⟩
          · exact hc0
          · exact (g1 j hj).2.2.2 x hx
end Go.Proofs.YtoleejecmefogaaDoor
/- Which kid a LoopShare plays, both ways. -/
namespace Go.Proofs.YtoleejecmefogaaDoor
open Go
set_option maxRecDepth 100000
set_option maxHeartbeats 8000000
theorem rr46SNext {P Q X : Prop} (x : X) (q : Q) (h : X → Hold Q → P := by intro x0 q0; (repeat (first | (with_reducible refine awp_block ?_) | (with_reducible refine vRem_nil ?_) | (with_reducible refine vRst_nil ?_) | ((with_reducible refine vRem_id ?_); refine vRem_nil ?_) | ((first | ((with_reducible refine awp_idS (b := false) ?_); refine awp_keep 37778931862959175098861 100 (awp_seqR2 tyok (mdL []) fun KN hKN => ?_)) | ((with_reducible refine awp_idR (b := false) ?_); refine awp_keep 37778931862959175098861 100 (awp_region2 tyok (mdL []) fun KN hKN => ?_)) | ((with_reducible refine vRem_id ?_); refine vRem_go fun KN hKN => ?_) | ((with_reducible refine vRst_id ?_); refine vRst_go fun KN hKN => ?_) | ((with_reducible refine vMid_id ?_); refine vMid_go ?_ fun KN hKN => ?_) | ((with_reducible refine awp_idS (b := true) ?_); refine awp_keep 37778931862959175098861 100 (awp_seqD2 (id := 11) tyok (by kernel_rfl) (mdL []) (E0 := [0, 1, 2, 3, 4, 5, 6, 7, 8, 9, 10, 11, 12, 13, 14, 15, 16, 17, 18, 19, 20, 21, 22, 23, 24, 25, 26, 27, 28, 29, 30, 31, 32, 33, 34, 35, 36, 37, 38, 39, 40, 41]) (pl := []) 79 rfl (by kernel_rfl) fun KN hKN => ?_)) | ((with_reducible refine awp_idR (b := true) ?_); refine awp_keep 37778931862959175098861 100 (awp_draw2 (id := 11) tyok (by kernel_rfl) (mdL []) (E0 := [0, 1, 2, 3, 4, 5, 6, 7, 8, 9, 10, 11, 12, 13, 14, 15, 16, 17, 18, 19, 20, 21, 22, 23, 24, 25, 26, 27, 28, 29, 30, 31, 32, 33, 34, 35, 36, 37, 38, 39, 40, 41]) (pl := []) 79 rfl (by kernel_rfl) fun KN hKN => ?_))) <;> (simp only [vOps, jnk_zero, jnk_jnk, getD_jnk_lt, getD_jnk_ge, set_jnk_lt, set_jnk_ge, Nat.reduceSub, Nat.reduceLT, Nat.reduceLeDiff, gStep, condG, qV, binV, vV, iV, sV, bV, nV, arV, pickE, joinA, joinOk, isOpt, vEff, binE, vBin, iBin, sBin, arith, nilOf, nBin, boolOk, convI, storeE, newE, sliceE, appE, lenE, minE, biE, bndE, cellsAt, ldOk, ld, TyD.isAgg, AV.shift, AV.isAddr, AV.cellsB, AV.noLoc, rowOf, litRow, fillA, opS, uside, unw, evL, cv, St.put, opsOf, Value.oneCell', vIdx, stepI, vRest, reL, reI, mdL, splice, bef, aft, isCallB, isCallV, ↓reduceIte, Nat.reduceAdd, reduceCtorEq, Nat.reduceEqDiff, Nat.reduceMul, lemA, lemT, x0, St.keep, keepL_nil, keepL_c1, keepL_c0, keepL_jnk, cutLoc, List.take_nil, List.take_succ_cons, List.take_zero, Nat.reduceLT, Nat.reduceMod, Nat.reduceDiv, Nat.reducePow]; (try and_intros); (all_goals first | (refine hKN _ ?_; clear hKN KN) | (first | exact True.intro | (intros; first | exact True.intro | (with_reducible assumption) | omega | (with_reducible rfl) | (with_reducible decide) | (simp_all; done) | (simp_all; omega))) | skip))) | (with_reducible refine awp_skip ?_) | (with_reducible refine awp_exit ?_) | (with_reducible refine thenQ_normal ?_) | (with_reducible refine inBlock_normal ?_) | (with_reducible refine thenQ_exit ?_) | (with_reducible refine inBlock_exit ?_) | (with_reducible refine inBlock_other (by decide) ?_))); (all_goals (try revert KN)); first | (exact q0.out; done) | (apply Hold.fst; exact q0; apply Hold.snd; exact q0; done) | (apply Hold.a; exact q0; apply Hold.b; exact q0; apply Hold.c; exact q0; done) | (apply Hold.a4; exact q0; apply Hold.b4; exact q0; apply Hold.c4; exact q0; apply Hold.d4; exact q0; done)) : P := h x ⟨q⟩
theorem ru46SNext {P Q X : Prop} (x : X) (q : Q) (h : X → Hold Q → P := by intro x0 q0; (repeat (first | (with_reducible refine awp_block ?_) | (with_reducible refine vRem_nil ?_) | (with_reducible refine vRst_nil ?_) | ((with_reducible refine vRem_id ?_); refine vRem_nil ?_) | ((first | ((with_reducible refine awp_idS (b := false) ?_); refine awp_keep 37778931862959175098861 100 (awp_seqR2 tyok (mdL []) fun KN hKN => ?_)) | ((with_reducible refine awp_idR (b := false) ?_); refine awp_keep 37778931862959175098861 100 (awp_region2 tyok (mdL []) fun KN hKN => ?_)) | ((with_reducible refine vRem_id ?_); refine vRem_go fun KN hKN => ?_) | ((with_reducible refine vRst_id ?_); refine vRst_go fun KN hKN => ?_) | ((with_reducible refine vMid_id ?_); refine vMid_go ?_ fun KN hKN => ?_) | ((with_reducible refine awp_idS (b := true) ?_); refine awp_keep 37778931862959175098861 100 (awp_seqD2 (id := 11) tyok (by kernel_rfl) (mdL []) (E0 := [0, 1, 2, 3, 4, 5, 6, 7, 8, 9, 10, 11, 12, 13, 14, 15, 16, 17, 18, 19, 20, 21, 22, 23, 24, 25, 26, 27, 28, 29, 30, 31, 32, 33, 34, 35, 36, 37, 38, 39, 40, 41]) (pl := []) 79 rfl (by kernel_rfl) fun KN hKN => ?_)) | ((with_reducible refine awp_idR (b := true) ?_); refine awp_keep 37778931862959175098861 100 (awp_draw2 (id := 11) tyok (by kernel_rfl) (mdL []) (E0 := [0, 1, 2, 3, 4, 5, 6, 7, 8, 9, 10, 11, 12, 13, 14, 15, 16, 17, 18, 19, 20, 21, 22, 23, 24, 25, 26, 27, 28, 29, 30, 31, 32, 33, 34, 35, 36, 37, 38, 39, 40, 41]) (pl := []) 79 rfl (by kernel_rfl) fun KN hKN => ?_))) <;> (simp only [vOps, jnk_zero, jnk_jnk, getD_jnk_lt, getD_jnk_ge, set_jnk_lt, set_jnk_ge, Nat.reduceSub, Nat.reduceLT, Nat.reduceLeDiff, gStep, condG, qV, binV, vV, iV, sV, bV, nV, arV, pickE, joinA, joinOk, isOpt, vEff, binE, vBin, iBin, sBin, arith, nilOf, nBin, boolOk, convI, storeE, newE, sliceE, appE, lenE, minE, biE, bndE, cellsAt, ldOk, ld, TyD.isAgg, AV.shift, AV.isAddr, AV.cellsB, AV.noLoc, rowOf, litRow, fillA, opS, uside, unw, evL, cv, St.put, opsOf, Value.oneCell', vIdx, stepI, vRest, reL, reI, mdL, splice, bef, aft, isCallB, isCallV, ↓reduceIte, Nat.reduceAdd, reduceCtorEq, Nat.reduceEqDiff, Nat.reduceMul, lemA, lemT, x0, St.keep, keepL_nil, keepL_c1, keepL_c0, keepL_jnk, cutLoc, List.take_nil, List.take_succ_cons, List.take_zero, Nat.reduceLT, Nat.reduceMod, Nat.reduceDiv, Nat.reducePow]; (try and_intros); (all_goals first | (refine hKN _ ?_; clear hKN KN) | (first | exact True.intro | (intros; first | exact True.intro | (with_reducible assumption) | omega | (with_reducible rfl) | (with_reducible decide) | (simp_all; done) | (simp_all; omega))) | skip))) | (with_reducible refine awp_seq ?_) | (with_reducible refine awp_skip ?_) | (with_reducible refine awp_exit ?_) | (with_reducible refine thenQ_normal ?_) | (with_reducible refine inBlock_normal ?_) | (with_reducible refine thenQ_exit ?_) | (with_reducible refine inBlock_exit ?_) | (with_reducible refine inBlock_other (by decide) ?_))); (all_goals (try revert KN)); first | (exact q0.out; done) | (apply Hold.fst; exact q0; apply Hold.snd; exact q0; done) | (apply Hold.a; exact q0; apply Hold.b; exact q0; apply Hold.c; exact q0; done) | (apply Hold.a4; exact q0; apply Hold.b4; exact q0; apply Hold.c4; exact q0; apply Hold.d4; exact q0; done)) : P := h x ⟨q⟩
theorem mul_bd {a b A B : Int} (ha : 0 ≤ a ∧ a ≤ A) (hb : 0 ≤ b ∧ b ≤ B) : 0 ≤ a * b ∧ a * b ≤ A * B :=
  ⟨Int.mul_nonneg ha.1 hb.1, Int.mul_le_mul ha.2 hb.2 hb.1 (by omega)⟩
theorem sum_take_succ (l : List Int) (j : Nat) (h : j < l.length) : (l.take (j + 1)).sum = (l.take j).sum + l.getD j 0 := by
  rw [List.take_succ, List.getD_eq_getElem?_getD, List.getElem?_eq_getElem h, List.sum_append]; simp only [Option.toList_some, List.sum_cons, List.sum_nil, Option.getD_some]; omega
theorem sum_01 : ∀ (l : List Int), (∀ x ∈ l, 1 ≤ x ∧ x ≤ 1000) → 0 ≤ l.sum ∧ l.sum ≤ l.length * 1000
  | [], _ => by simp
  | x :: l, h => by
    have h1 := h x (by simp)
    have h2 := sum_01 l fun y hy => h y (by simp [hy])
    simp only [List.sum_cons, List.length_cons]
    omega
theorem g_next46 (kind : Int) (item : ByteArray) (long many : Int) (kr : AV) (shares : List Int) (K : AV) (p : Int) (i c0 : Nat) (cs : List Int) (h : Hp) (hH : h.H i = some (.cells [.v (.int .i64 kind), .v (.string item), .v (.int .i64 long), .v (.int .i64 many), kr, .row 1 (shares.map encI) none, K, .v (.int .i64 p), .arr 1 c0 shares.length]))
    (hT : h.T c0 = some (.cont 1 (cs.map encI))) (hl : cs.length = shares.length) (hl2 : shares.length ≤ 5) (hs : ∀ x ∈ shares, 1 ≤ x ∧ x ≤ 1000) (hp : 0 ≤ p ∧ p ≤ 1000000) (hc : ∀ x ∈ cs, 0 ≤ x ∧ x ≤ 1000000) :
    ACalls Tryd.prog 46 [.ptr i 0] h (fun r h' => r = .v (.int .i64 (nextF shares p cs)) ∧ h' = h) := by
  refine acalls_of tyok Tryd.func46 rfl (by kernel_rfl) fun c => ?_; simp only [Tryd.ntmps46, List.length_cons, List.length_nil, Nat.reduceAdd, Nat.reduceSub, jnk_rep, List.cons_append, List.nil_append]
  refine rr46SNext hH ?_; (repeat' (with_reducible refine AndQ.mk ?_ ?_)); (all_goals (try ((with_reducible refine kin ?_); intro K1 hK1)))
  refine awp_seq ?_
  refine ru46SNext hH ?_; (repeat' (with_reducible refine AndQ.mk ?_ ?_)); (all_goals (try ((with_reducible refine kin ?_); intro K1 hK1)))
  refine awp_loopC (rl false [0, 1, 2, 1, 9, 3, 63]) 0 (fun g s => ∃ j : Nat, g + j = shares.length ∧ s = ⟨((.ptr i 0) :: AV.junk :: AV.junk :: ((.v (.int .i64 (shares.take j).sum)) :: (jnk 9 ((.row 1 (shares.map encI) none) :: (.v (.int .i64 shares.length)) :: (.v (.int .i64 j)) :: (jnk 63 []))))), [], h⟩) shares.length ⟨0, by omega, rfl⟩ ?_
  rintro g _ ⟨j, hj, rfl⟩
  have hsj := sum_01 (shares.take j) fun x hx => hs x (List.mem_of_mem_take hx)
  have hjl : (shares.take j).length ≤ 5 := by simp; omega
  refine ru46SNext hH ?_; (repeat' (with_reducible refine AndQ.mk ?_ ?_)); (all_goals (try ((with_reducible refine kin ?_); intro K1 hK1)))
  refine awp_cond (t := _) rfl (fun h1 => ?_) (fun h1 => ?_)
  · simp only [decide_eq_true_eq] at h1
    have hjs : j < shares.length := by omega
    have hg : (shares.map encI).getD j [] = encI (shares.getD j 0) := getD_enc encI shares j 0 hjs
    have e1 := sum_take_succ shares j hjs
    have hb := hs _ (getD_mem' shares j 0 hjs)
    generalize shares.getD j 0 = x at hg e1 hb
    refine ru46SNext (And.intro @Int.toNat_natCast (And.intro hg @encI.eq_1)) ?_; (repeat' (with_reducible refine AndQ.mk ?_ ?_)); (all_goals (try ((with_reducible refine kin ?_); intro K1 hK1)))
    exact ⟨g - 1, by omega, j + 1, by omega, by rw [e1]; rfl⟩
  · simp only [decide_eq_false_iff_not] at h1
    have hjs : j = shares.length := by omega
    subst hjs
    rw [List.take_length] at hsj ⊢
    clear h1 hjl hj
    refine rr46SNext hH ?_; (repeat' (with_reducible refine AndQ.mk ?_ ?_)); (all_goals (try ((with_reducible refine kin ?_); intro K1 hK1)))
    refine awp_seq ?_
    refine ru46SNext hH ?_; (repeat' (with_reducible refine AndQ.mk ?_ ?_)); (all_goals (try ((with_reducible refine kin ?_); intro K1 hK1)))
    refine awp_loopC (rl false [0, 1, 2, 1, 2, 1, 20, 3, 49]) 0 (fun g s => ∃ j : Nat, g + j = shares.length ∧ s = ⟨((.ptr i 0) :: AV.junk :: AV.junk :: ((.v (.int .i64 shares.sum)) :: AV.junk :: AV.junk :: ((.v (.int .i64 (bestTo (shareV shares p cs) j))) :: (jnk 20 ((.row 1 (shares.map encI) none) :: (.v (.int .i64 shares.length)) :: (.v (.int .i64 j)) :: (jnk 49 [])))))), [], h⟩) shares.length ⟨0, by omega, rfl⟩ ?_
    rintro g _ ⟨j, hj, rfl⟩
    refine ru46SNext hH ?_; (repeat' (with_reducible refine AndQ.mk ?_ ?_)); (all_goals (try ((with_reducible refine kin ?_); intro K1 hK1)))
    refine awp_cond (t := _) rfl (fun h1 => ?_) (fun h1 => ?_)
    · simp only [decide_eq_true_eq] at h1
      have hjs : j < shares.length := by omega
      have hbl : bestTo (shareV shares p cs) j < shares.length := by
        cases j with
        | zero => exact hjs
        | succ j => have := bestTo_lt (shareV shares p cs) (j + 1) (by omega); omega
      have e2 : bestTo (shareV shares p cs) (j + 1) = if shareV shares p cs j > shareV shares p cs (bestTo (shareV shares p cs) j) then j else bestTo (shareV shares p cs) j := rfl
      generalize bestTo (shareV shares p cs) j = b at *
      have e2t : shareV shares p cs b < shareV shares p cs j → bestTo (shareV shares p cs) (j + 1) = j := fun h => by rw [e2, if_pos h]
      have e2f : ¬ shareV shares p cs b < shareV shares p cs j → bestTo (shareV shares p cs) (j + 1) = b := fun h => by rw [e2, if_neg h]
      clear e2
      have hg : (shares.map encI).getD j [] = encI (shares.getD j 0) := getD_enc encI shares j 0 hjs
      have hgb : (shares.map encI).getD b [] = encI (shares.getD b 0) := getD_enc encI shares b 0 hbl
      have hcj : (cs.map encI).getD j [] = encI (cs.getD j 0) := getD_enc encI cs j 0 (by omega)
      have hcb : (cs.map encI).getD b [] = encI (cs.getD b 0) := getD_enc encI cs b 0 (by omega)
      have b1 := hs _ (getD_mem' shares j 0 hjs)
      have b2 := hs _ (getD_mem' shares b 0 hbl)
      have b3 := hc _ (getD_mem' cs j 0 (by omega))
      have b4 := hc _ (getD_mem' cs b 0 (by omega))
      have hss := sum_01 shares hs
      have m1 := mul_bd (a := shares.getD j 0) (b := p + 1) (A := 1000) (B := 1000001) (by omega) (by omega)
      have m2 := mul_bd (a := shares.getD b 0) (b := p + 1) (A := 1000) (B := 1000001) (by omega) (by omega)
      have m3 := mul_bd (a := cs.getD j 0) (b := shares.sum) (A := 1000000) (B := 5000) (by omega) (by omega)
      have m4 := mul_bd (a := cs.getD b 0) (b := shares.sum) (A := 1000000) (B := 5000) (by omega) (by omega)
      refine ru46SNext (And.intro hH (And.intro hT (And.intro hl (And.intro @Int.toNat_natCast (And.intro hg (And.intro hgb (And.intro hcj (And.intro hcb @encI.eq_1)))))))) ?_; (repeat' (with_reducible refine AndQ.mk ?_ ?_)); (all_goals (try ((with_reducible refine kin ?_); intro K1 hK1)))
      refine awp_cond (t := _) rfl (fun h2 => ?_) (fun h2 => ?_)
      · refine ru46SNext trivial ?_; (repeat' (with_reducible refine AndQ.mk ?_ ?_)); (all_goals (try ((with_reducible refine kin ?_); intro K1 hK1)))
        refine ⟨g - 1, by omega, j + 1, by omega, ?_⟩
        simp only [decide_eq_true_eq] at h2
        rw [e2t h2]; rfl
      · refine ru46SNext trivial ?_; (repeat' (with_reducible refine AndQ.mk ?_ ?_)); (all_goals (try ((with_reducible refine kin ?_); intro K1 hK1)))
        refine ⟨g - 1, by omega, j + 1, by omega, ?_⟩
        simp only [decide_eq_false_iff_not] at h2
        rw [e2f h2]; rfl
    · simp only [decide_eq_false_iff_not] at h1
      have hjs : j = shares.length := by omega
      subst hjs
      refine ru46SNext trivial ?_; (repeat' (with_reducible refine AndQ.mk ?_ ?_)); (all_goals (try ((with_reducible refine kin ?_); intro K1 hK1)))
      refine rtG Tryd.results46 ?_
      exact ⟨_, _, Weak.refl _, Hp.le.refl _, rfl, rfl⟩
end Go.Proofs.YtoleejecmefogaaDoor
/- loop.part.behind: the same kid as runner.next. -/
namespace Go.Proofs.YtoleejecmefogaaDoor
open Go
set_option maxRecDepth 100000
set_option maxHeartbeats 8000000
theorem rr45SBehind {P Q X : Prop} (x : X) (q : Q) (h : X → Hold Q → P := by intro x0 q0; (repeat (first | (with_reducible refine awp_block ?_) | (with_reducible refine vRem_nil ?_) | (with_reducible refine vRst_nil ?_) | ((with_reducible refine vRem_id ?_); refine vRem_nil ?_) | ((first | ((with_reducible refine awp_idS (b := false) ?_); refine awp_keep 35184372150525 100 (awp_seqR2 tyok (mdL []) fun KN hKN => ?_)) | ((with_reducible refine awp_idR (b := false) ?_); refine awp_keep 35184372150525 100 (awp_region2 tyok (mdL []) fun KN hKN => ?_)) | ((with_reducible refine vRem_id ?_); refine vRem_go fun KN hKN => ?_) | ((with_reducible refine vRst_id ?_); refine vRst_go fun KN hKN => ?_) | ((with_reducible refine vMid_id ?_); refine vMid_go ?_ fun KN hKN => ?_) | ((with_reducible refine awp_idS (b := true) ?_); refine awp_keep 35184372150525 100 (awp_seqD2 (id := 5) tyok (by kernel_rfl) (mdL []) (E0 := [0, 1, 2, 3, 4, 5, 6, 7, 8, 9, 10, 11, 12, 13, 14, 15, 16, 17, 18, 19, 20]) (pl := []) 50 rfl (by kernel_rfl) fun KN hKN => ?_)) | ((with_reducible refine awp_idR (b := true) ?_); refine awp_keep 35184372150525 100 (awp_draw2 (id := 5) tyok (by kernel_rfl) (mdL []) (E0 := [0, 1, 2, 3, 4, 5, 6, 7, 8, 9, 10, 11, 12, 13, 14, 15, 16, 17, 18, 19, 20]) (pl := []) 50 rfl (by kernel_rfl) fun KN hKN => ?_))) <;> (simp only [vOps, jnk_zero, jnk_jnk, getD_jnk_lt, getD_jnk_ge, set_jnk_lt, set_jnk_ge, Nat.reduceSub, Nat.reduceLT, Nat.reduceLeDiff, gStep, condG, qV, binV, vV, iV, sV, bV, nV, arV, pickE, joinA, joinOk, isOpt, vEff, binE, vBin, iBin, sBin, arith, nilOf, nBin, boolOk, convI, storeE, newE, sliceE, appE, lenE, minE, biE, bndE, cellsAt, ldOk, ld, TyD.isAgg, AV.shift, AV.isAddr, AV.cellsB, AV.noLoc, rowOf, litRow, fillA, opS, uside, unw, evL, cv, St.put, opsOf, Value.oneCell', vIdx, stepI, vRest, reL, reI, mdL, splice, bef, aft, isCallB, isCallV, ↓reduceIte, Nat.reduceAdd, reduceCtorEq, Nat.reduceEqDiff, Nat.reduceMul, lemA, lemT, x0, St.keep, keepL_nil, keepL_c1, keepL_c0, keepL_jnk, cutLoc, List.take_nil, List.take_succ_cons, List.take_zero, Nat.reduceLT, Nat.reduceMod, Nat.reduceDiv, Nat.reducePow]; (try and_intros); (all_goals first | (refine hKN _ ?_; clear hKN KN) | (first | exact True.intro | (intros; first | exact True.intro | (with_reducible assumption) | omega | (with_reducible rfl) | (with_reducible decide) | (simp_all; done) | (simp_all; omega))) | skip))) | (with_reducible refine awp_skip ?_) | (with_reducible refine awp_exit ?_) | (with_reducible refine thenQ_normal ?_) | (with_reducible refine inBlock_normal ?_) | (with_reducible refine thenQ_exit ?_) | (with_reducible refine inBlock_exit ?_) | (with_reducible refine inBlock_other (by decide) ?_))); (all_goals (try revert KN)); first | (exact q0.out; done) | (apply Hold.fst; exact q0; apply Hold.snd; exact q0; done) | (apply Hold.a; exact q0; apply Hold.b; exact q0; apply Hold.c; exact q0; done) | (apply Hold.a4; exact q0; apply Hold.b4; exact q0; apply Hold.c4; exact q0; apply Hold.d4; exact q0; done)) : P := h x ⟨q⟩
theorem ru45SBehind {P Q X : Prop} (x : X) (q : Q) (h : X → Hold Q → P := by intro x0 q0; (repeat (first | (with_reducible refine awp_block ?_) | (with_reducible refine vRem_nil ?_) | (with_reducible refine vRst_nil ?_) | ((with_reducible refine vRem_id ?_); refine vRem_nil ?_) | ((first | ((with_reducible refine awp_idS (b := false) ?_); refine awp_keep 35184372150525 100 (awp_seqR2 tyok (mdL []) fun KN hKN => ?_)) | ((with_reducible refine awp_idR (b := false) ?_); refine awp_keep 35184372150525 100 (awp_region2 tyok (mdL []) fun KN hKN => ?_)) | ((with_reducible refine vRem_id ?_); refine vRem_go fun KN hKN => ?_) | ((with_reducible refine vRst_id ?_); refine vRst_go fun KN hKN => ?_) | ((with_reducible refine vMid_id ?_); refine vMid_go ?_ fun KN hKN => ?_) | ((with_reducible refine awp_idS (b := true) ?_); refine awp_keep 35184372150525 100 (awp_seqD2 (id := 5) tyok (by kernel_rfl) (mdL []) (E0 := [0, 1, 2, 3, 4, 5, 6, 7, 8, 9, 10, 11, 12, 13, 14, 15, 16, 17, 18, 19, 20]) (pl := []) 50 rfl (by kernel_rfl) fun KN hKN => ?_)) | ((with_reducible refine awp_idR (b := true) ?_); refine awp_keep 35184372150525 100 (awp_draw2 (id := 5) tyok (by kernel_rfl) (mdL []) (E0 := [0, 1, 2, 3, 4, 5, 6, 7, 8, 9, 10, 11, 12, 13, 14, 15, 16, 17, 18, 19, 20]) (pl := []) 50 rfl (by kernel_rfl) fun KN hKN => ?_))) <;> (simp only [vOps, jnk_zero, jnk_jnk, getD_jnk_lt, getD_jnk_ge, set_jnk_lt, set_jnk_ge, Nat.reduceSub, Nat.reduceLT, Nat.reduceLeDiff, gStep, condG, qV, binV, vV, iV, sV, bV, nV, arV, pickE, joinA, joinOk, isOpt, vEff, binE, vBin, iBin, sBin, arith, nilOf, nBin, boolOk, convI, storeE, newE, sliceE, appE, lenE, minE, biE, bndE, cellsAt, ldOk, ld, TyD.isAgg, AV.shift, AV.isAddr, AV.cellsB, AV.noLoc, rowOf, litRow, fillA, opS, uside, unw, evL, cv, St.put, opsOf, Value.oneCell', vIdx, stepI, vRest, reL, reI, mdL, splice, bef, aft, isCallB, isCallV, ↓reduceIte, Nat.reduceAdd, reduceCtorEq, Nat.reduceEqDiff, Nat.reduceMul, lemA, lemT, x0, St.keep, keepL_nil, keepL_c1, keepL_c0, keepL_jnk, cutLoc, List.take_nil, List.take_succ_cons, List.take_zero, Nat.reduceLT, Nat.reduceMod, Nat.reduceDiv, Nat.reducePow]; (try and_intros); (all_goals first | (refine hKN _ ?_; clear hKN KN) | (first | exact True.intro | (intros; first | exact True.intro | (with_reducible assumption) | omega | (with_reducible rfl) | (with_reducible decide) | (simp_all; done) | (simp_all; omega))) | skip))) | (with_reducible refine awp_seq ?_) | (with_reducible refine awp_skip ?_) | (with_reducible refine awp_exit ?_) | (with_reducible refine thenQ_normal ?_) | (with_reducible refine inBlock_normal ?_) | (with_reducible refine thenQ_exit ?_) | (with_reducible refine inBlock_exit ?_) | (with_reducible refine inBlock_other (by decide) ?_))); (all_goals (try revert KN)); first | (exact q0.out; done) | (apply Hold.fst; exact q0; apply Hold.snd; exact q0; done) | (apply Hold.a; exact q0; apply Hold.b; exact q0; apply Hold.c; exact q0; done) | (apply Hold.a4; exact q0; apply Hold.b4; exact q0; apply Hold.c4; exact q0; apply Hold.d4; exact q0; done)) : P := h x ⟨q⟩
theorem ru28SBehind {P Q X : Prop} (x : X) (q : Q) (h : X → Hold Q → P := by intro x0 q0; (repeat (first | (with_reducible refine awp_block ?_) | (with_reducible refine vRem_nil ?_) | (with_reducible refine vRst_nil ?_) | ((with_reducible refine vRem_id ?_); refine vRem_nil ?_) | ((first | ((with_reducible refine awp_idS (b := false) ?_); refine awp_seqR2 tyok (mdL []) fun KN hKN => ?_) | ((with_reducible refine awp_idR (b := false) ?_); refine awp_region2 tyok (mdL []) fun KN hKN => ?_) | ((with_reducible refine vRem_id ?_); refine vRem_go fun KN hKN => ?_) | ((with_reducible refine vRst_id ?_); refine vRst_go fun KN hKN => ?_) | ((with_reducible refine vMid_id ?_); refine vMid_go ?_ fun KN hKN => ?_) | ((with_reducible refine awp_idS (b := true) ?_); refine awp_seqD2 (id := 1) tyok (by kernel_rfl) (mdL []) (E0 := [0, 1, 2, 3, 4, 5, 6, 7, 8, 9, 10]) (pl := []) 13 rfl (by kernel_rfl) fun KN hKN => ?_) | ((with_reducible refine awp_idR (b := true) ?_); refine awp_draw2 (id := 1) tyok (by kernel_rfl) (mdL []) (E0 := [0, 1, 2, 3, 4, 5, 6, 7, 8, 9, 10]) (pl := []) 13 rfl (by kernel_rfl) fun KN hKN => ?_)) <;> (simp only [vOps, jnk_zero, jnk_jnk, getD_jnk_lt, getD_jnk_ge, set_jnk_lt, set_jnk_ge, Nat.reduceSub, Nat.reduceLT, Nat.reduceLeDiff, gStep, condG, qV, binV, vV, iV, sV, bV, nV, arV, pickE, joinA, joinOk, isOpt, vEff, binE, vBin, iBin, sBin, arith, nilOf, nBin, boolOk, convI, storeE, newE, sliceE, appE, lenE, minE, biE, bndE, cellsAt, ldOk, ld, TyD.isAgg, AV.shift, AV.isAddr, AV.cellsB, AV.noLoc, rowOf, litRow, fillA, opS, uside, unw, evL, cv, St.put, opsOf, Value.oneCell', vIdx, stepI, vRest, reL, reI, mdL, splice, bef, aft, isCallB, isCallV, ↓reduceIte, Nat.reduceAdd, reduceCtorEq, Nat.reduceEqDiff, Nat.reduceMul, lemA, lemT, x0]; (try and_intros); (all_goals first | (refine hKN _ ?_; clear hKN KN) | (first | exact True.intro | (intros; first | exact True.intro | (with_reducible assumption) | omega | (with_reducible rfl) | (with_reducible decide) | (simp_all; done) | (simp_all; omega))) | skip))) | (with_reducible refine awp_seq ?_) | (with_reducible refine awp_skip ?_) | (with_reducible refine awp_exit ?_) | (with_reducible refine thenQ_normal ?_) | (with_reducible refine inBlock_normal ?_) | (with_reducible refine thenQ_exit ?_) | (with_reducible refine inBlock_exit ?_) | (with_reducible refine inBlock_other (by decide) ?_))); (all_goals (try revert KN)); first | (exact q0.out; done) | (apply Hold.fst; exact q0; apply Hold.snd; exact q0; done) | (apply Hold.a; exact q0; apply Hold.b; exact q0; apply Hold.c; exact q0; done) | (apply Hold.a4; exact q0; apply Hold.b4; exact q0; apply Hold.c4; exact q0; apply Hold.d4; exact q0; done)) : P := h x ⟨q⟩
theorem g_behind45 (kind : Int) (item : ByteArray) (long many : Int) (kr : AV) (shares : List Int) (K : AV) (p : Int) (i c0 : Nat) (cs : List Int) (h : Hp) (hH : h.H i = some (.cells [.v (.int .i64 kind), .v (.string item), .v (.int .i64 long), .v (.int .i64 many), kr, .row 1 (shares.map encI) none, K, .v (.int .i64 p), .arr 1 c0 shares.length, .v (.int .i64 shares.sum)]))
    (hT : h.T c0 = some (.cont 1 (cs.map encI))) (hl : cs.length = shares.length) (hl2 : shares.length ≤ 5) (hs : ∀ x ∈ shares, 1 ≤ x ∧ x ≤ 1000) (hp : 0 ≤ p ∧ p ≤ 1000000) (hc : ∀ x ∈ cs, 0 ≤ x ∧ x ≤ 1000000) :
    ACalls Tryd.prog 45 [.ptr i 0] h (fun r h' => r = .v (.int .i64 (nextF shares p cs)) ∧ h' = h) := by
  refine acalls_of tyok Tryd.func45 rfl (by kernel_rfl) fun c => ?_; simp only [Tryd.ntmps45, List.length_cons, List.length_nil, Nat.reduceAdd, Nat.reduceSub, jnk_rep, List.cons_append, List.nil_append]
  refine rr45SBehind hH ?_; (repeat' (with_reducible refine AndQ.mk ?_ ?_)); (all_goals (try ((with_reducible refine kin ?_); intro K1 hK1)))
  refine awp_seq ?_
  refine ru45SBehind hH ?_; (repeat' (with_reducible refine AndQ.mk ?_ ?_)); (all_goals (try ((with_reducible refine kin ?_); intro K1 hK1)))
  refine awp_loopC (rl false [0, 1, 2, 2, 7, 3, 35]) 0 (fun g s => ∃ (j : Nat) (m : Int), g + j = shares.length ∧ (j ≠ 0 → m = shareV shares p cs (bestTo (shareV shares p cs) j)) ∧ (-10000000000 ≤ m ∧ m ≤ 10000000000) ∧
    s = ⟨((.ptr i 0) :: AV.junk :: AV.junk :: ((.v (.int .i64 (bestTo (shareV shares p cs) j))) :: (.v (.int .i64 m)) :: (jnk 7 ((.row 1 (shares.map encI) none) :: (.v (.int .i64 shares.length)) :: (.v (.int .i64 j)) :: (jnk 35 []))))), [], h⟩) shares.length ⟨0, 0, by omega, fun h => absurd rfl h, by omega, rfl⟩ ?_
  rintro g _ ⟨j, m, hj, hm, hmb, rfl⟩
  refine ru45SBehind hH ?_; (repeat' (with_reducible refine AndQ.mk ?_ ?_)); (all_goals (try ((with_reducible refine kin ?_); intro K1 hK1)))
  refine awp_cond (t := _) rfl (fun h1 => ?_) (fun h1 => ?_)
  · simp only [decide_eq_true_eq] at h1
    have hjs : j < shares.length := by omega
    have e2 : bestTo (shareV shares p cs) (j + 1) = if shareV shares p cs j > shareV shares p cs (bestTo (shareV shares p cs) j) then j else bestTo (shareV shares p cs) j := rfl
    have e0 : j = 0 → bestTo (shareV shares p cs) (j + 1) = j := fun h => by subst h; simp [bestTo]
    have e2t : j ≠ 0 → m < shareV shares p cs j → bestTo (shareV shares p cs) (j + 1) = j := fun h0 h => by rw [e2, if_pos (by rw [hm h0] at h; exact h)]
    have e2f : j ≠ 0 → ¬ m < shareV shares p cs j → bestTo (shareV shares p cs) (j + 1) = bestTo (shareV shares p cs) j := fun h0 h => by rw [e2, if_neg (by rw [hm h0] at h; exact h)]
    clear e2
    have hg : (shares.map encI).getD j [] = encI (shares.getD j 0) := getD_enc encI shares j 0 hjs
    have hcj : (cs.map encI).getD j [] = encI (cs.getD j 0) := getD_enc encI cs j 0 (by omega)
    have b1 := hs _ (getD_mem' shares j 0 hjs)
    have b3 := hc _ (getD_mem' cs j 0 (by omega))
    have hss := sum_01 shares hs
    have m1 := mul_bd (a := shares.getD j 0) (b := p + 1) (A := 1000) (B := 1000001) (by omega) (by omega)
    have m3 := mul_bd (a := cs.getD j 0) (b := shares.sum) (A := 1000000) (B := 5000) (by omega) (by omega)
    have hv : shareV shares p cs j = shares.getD j 0 * (p + 1) - cs.getD j 0 * shares.sum := rfl
    refine ru45SBehind (And.intro hH (And.intro hT (And.intro hl (And.intro @Int.toNat_natCast (And.intro hg (And.intro hcj @encI.eq_1)))))) ?_; (repeat' (with_reducible refine AndQ.mk ?_ ?_)); (all_goals (try ((with_reducible refine kin ?_); intro K1 hK1)))
    refine awp_cond (t := _) rfl (fun h2 => ?_) (fun h2 => ?_)
    · refine ru45SBehind trivial ?_; (repeat' (with_reducible refine AndQ.mk ?_ ?_)); (all_goals (try ((with_reducible refine kin ?_); intro K1 hK1)))
      have e3 : bestTo (shareV shares p cs) (j + 1) = j := by
        simp only [Bool.or_eq_true, beq_iff_eq, decide_eq_true_eq] at h2
        by_cases h0 : j = 0
        · exact e0 h0
        · exact e2t h0 (by rw [hv]; omega)
      exact ⟨g - 1, by omega, j + 1, shares.getD j 0 * (p + 1) - cs.getD j 0 * shares.sum, by omega, fun _ => by rw [e3, hv], by omega, by rw [e3]; rfl⟩
    · refine ru45SBehind trivial ?_; (repeat' (with_reducible refine AndQ.mk ?_ ?_)); (all_goals (try ((with_reducible refine kin ?_); intro K1 hK1)))
      simp only [Bool.or_eq_false_iff, beq_eq_false_iff_ne, decide_eq_false_iff_not] at h2
      have h0 : j ≠ 0 := by omega
      have e3 := e2f h0 (by rw [hv]; omega)
      exact ⟨g - 1, by omega, j + 1, m, by omega, fun _ => by rw [e3]; exact hm h0, by omega, by rw [e3]; rfl⟩
  · simp only [decide_eq_false_iff_not] at h1
    have hjs : j = shares.length := by omega
    subst hjs
    refine ru45SBehind trivial ?_; (repeat' (with_reducible refine AndQ.mk ?_ ?_)); (all_goals (try ((with_reducible refine kin ?_); intro K1 hK1)))
    refine rtG Tryd.results45 ?_
    exact ⟨_, _, Weak.refl _, Hp.le.refl _, rfl, rfl⟩
theorem g_full28 (o k : Nat) (h : Hp) (xs : List (ByteArray × Int)) (hO : OutAt h o k [.v (.int .i64 5000)] xs) : ACalls Tryd.prog 28 [.ptr o 0] h (fun r h' => r = .v (.bool (decide (5000 < (xs.length : Int)))) ∧ h' = h) := by
  have hH : h.H o = some (.cells [.row 2 (xs.map encStep) (some k), .v (.int .i64 5000)]) := hO.1
  refine acalls_of tyok Tryd.func28 rfl (by kernel_rfl) fun c => ?_; simp only [Tryd.ntmps28, List.length_cons, List.length_nil, Nat.reduceAdd, Nat.reduceSub, jnk_rep, List.cons_append, List.nil_append]
  refine ru28SBehind hH ?_; (repeat' (with_reducible refine AndQ.mk ?_ ?_)); (all_goals (try ((with_reducible refine kin ?_); intro K1 hK1)))
  refine rtG Tryd.results28 ?_
  exact ⟨_, _, Weak.refl _, Hp.le.refl _, rfl, rfl⟩
end Go.Proofs.YtoleejecmefogaaDoor
/- Passes: what is kept of memory, and the plain law of counts. -/
namespace Go.Proofs.YtoleejecmefogaaDoor
open Go
set_option maxRecDepth 100000
/-- What a pass may turn. -/
def FrP (a : AT) (o k : Nat) (h h' : Hp) : Prop := (∀ i, i ∉ idsT a → i ≠ o → h'.H i = h.H i) ∧ (∀ c, c ∉ toksT a → c ≠ k → h'.T c = h.T c)
theorem FrP.trans {a : AT} {o k : Nat} {h h1 h2 : Hp} (f : FrP a o k h h1) (g : FrP a o k h1 h2) : FrP a o k h h2 :=
  ⟨fun i x y => (g.1 i x y).trans (f.1 i x y), fun i x y => (g.2 i x y).trans (f.2 i x y)⟩
theorem FrP.kid {i c : Nat} {az : List AT} {j : Nat} {o k : Nat} {h h' : Hp} (hj : j < az.length) (f : FrP (az.getD j default) o k h h') : FrP (.mk i c az) o k h h' :=
  ⟨fun x hx ho => f.1 x (fun h => hx (idsT_kid hj h)) ho, fun x hx ho => f.2 x (fun h => hx (toksT_kid hj h)) ho⟩
theorem getD_setS {α : Type} (l : List α) (j : Nat) (x d : α) (h : j < l.length) : (l.set j x).getD j d = x := by rw [List.getD_eq_getElem?_getD, List.getElem?_set_self h]; rfl
theorem getD_setN {α : Type} (l : List α) (j i : Nat) (x d : α) (h : j ≠ i) : (l.set j x).getD i d = l.getD i d := by rw [List.getD_eq_getElem?_getD, List.getElem?_set_ne h, ← List.getD_eq_getElem?_getD]
/-- A kid that was played. -/
theorem RAt.kid {X : RK} {h h' : Hp} {d : Nat} {kind : Int} {item : ByteArray} {long many : Int} {kids : List LT} {shares : List Int} {i c : Nat} {az : List AT} {p : Int} {cs : List Int} {ks : List PS}
    (hR : RAt X h (d + 1) (.mk kind item long many kids shares) (.mk i c az) (.mk p cs ks)) (hS : Sep (d + 1) (.mk i c az)) {o k : Nat} (ho : o ∉ idsT (.mk i c az)) (hk : k ∉ toksT (.mk i c az)) {j : Nat} (hj : j < kids.length) {s' : PS}
    (hj' : RAt X h' d (kids.getD j default) (az.getD j default) s') (hf : FrP (az.getD j default) o k h h') : RAt X h' (d + 1) (.mk kind item long many kids shares) (.mk i c az) (.mk p cs (ks.set j s')) := by
  obtain ⟨⟨K, h1, hK⟩, h2, ⟨l1, l2, l3, l4⟩, h4⟩ := hR
  have hjz : j < az.length := by omega
  have hSj := hS j hjz
  refine ⟨⟨K, (hf.1 i hSj.1.1 (fun e => ho (by rw [idsT_eq, e]; simp))).trans h1, hK⟩, (hf.2 c hSj.1.2.1 (fun e => hk (by rw [toksT_eq, e]; simp))).trans h2, ⟨l1, l2, l3, by simpa using l4⟩, fun l hl => ?_⟩
  by_cases hlj : j = l
  · subst hlj
    rw [getD_setS _ _ _ _ (by omega)]
    exact hj'
  · rw [getD_setN _ _ _ _ _ hlj]
    have hd := hSj.2 l (by omega) (fun e => hlj e.symm)
    exact (h4 l hl).frame (fun x hx => hf.1 x (fun hx2 => hd.1 x hx2 hx) (fun e => ho (by rw [← e]; exact idsT_kid (by omega) hx))) (fun x hx => hf.2 x (fun hx2 => hd.2 x hx2 hx) (fun e => hk (by rw [← e]; exact toksT_kid (by omega) hx)))
theorem RAt.tokNe {X : RK} {h : Hp} {d : Nat} {t : LT} {a : AT} {s : PS} (hR : RAt X h d t a s) {k n : Nat} (hk : h.T k = some (.tail n)) : k ∉ toksT a := fun hx => by
  obtain ⟨xs, e⟩ := hR.cont k hx
  rw [hk] at e; cases e
/-- What is known of a fold's state: no count above n. -/
def FOk (d : Nat) (kids : List LT) (n : Int) (a : List Int × List PS) : Prop :=
  (a.1.length = kids.length ∧ a.2.length = kids.length) ∧ (∀ x ∈ a.1, 0 ≤ x ∧ x ≤ n) ∧ ∀ j, j < kids.length → PSB d (kids.getD j default) (a.2.getD j default) n
theorem mem_set_or {l : List Int} {j : Nat} {v x : Int} (h : x ∈ l.set j v) : x ∈ l ∨ x = v := List.mem_or_eq_of_mem_set h
theorem stepU_ok {d : Nat} {f : LT → PS → PS × List (ByteArray × Int)} {kids : List LT} {n : Int} {a : (List Int × List PS) × List (ByteArray × Int)} (hf : FOk d kids n a.1) {i : Nat} (hi : i < kids.length) {m : Nat}
    (hm : (f (kids.getD i default) (a.1.2.getD i default)).2.length = m) (hm1 : 1 ≤ m) (hp : PSB d (kids.getD i default) (f (kids.getD i default) (a.1.2.getD i default)).1 (n + m)) : FOk d kids (n + m) (stepU f kids a i).1 ∧ (stepU f kids a i).2.length = a.2.length + m := by
  obtain ⟨⟨l1, l2⟩, h1, h2⟩ := hf
  refine ⟨⟨⟨by simp [stepU, l1], by simp [stepU, l2]⟩, fun x hx => ?_, fun j hj => ?_⟩, by simp only [stepU, List.length_append, hm]⟩
  · rcases mem_set_or hx with h | h
    · have := h1 x h; omega
    · have := h1 _ (getD_mem' a.1.1 i 0 (by omega)); omega
  · simp only [stepU]
    by_cases hij : i = j
    · subst hij; rw [getD_setS _ _ _ _ (by omega)]; exact hp
    · rw [getD_setN _ _ _ _ _ hij]; exact (h2 j hj).mono (by omega)
theorem idxL_lt {kind p many : Int} {nk nx : Nat} (hk : 1 ≤ kind ∧ kind ≤ 5) (hn : kind ≠ 1 → 0 < nk) (hx : kind = 4 → nx < nk) (hp : 0 ≤ p) : ∀ i ∈ idxL kind p many nk nx, i < nk := by
  intro i hi
  unfold idxL at hi
  split at hi
  · simp at hi
  · rename_i h1
    have h0 := hn h1
    split at hi
    · simpa using hi
    · split at hi
      · simp only [List.mem_singleton] at hi
        subst hi
        have := Int.tmod_lt_of_pos p (show (0 : Int) < nk by omega)
        have := Int.tmod_nonneg (nk : Int) hp
        omega
      · split at hi
        · simp only [List.mem_singleton] at hi; subst hi; exact hx (by assumption)
        · have := (List.mem_replicate.1 hi).2; omega
theorem idxL_ne {kind p many : Int} {nk nx : Nat} (hk : 1 ≤ kind ∧ kind ≤ 5) (h1 : kind ≠ 1) (hn : 0 < nk) (hm : kind = 5 → 1 ≤ many) : idxL kind p many nk nx ≠ [] := by
  unfold idxL
  rw [if_neg h1]
  split
  · intro h; have := congrArg List.length h; simp at this; omega
  · split
    · simp
    · split
      · simp
      · intro h; have := congrArg List.length h; simp at this; have := hm (by omega); omega
/-- The lengths of a state are the loop's. -/
def Fits : Nat → LT → PS → Prop
  | 0, _, _ => False
  | d + 1, .mk _ _ _ _ kids _, .mk _ cs ks => (cs.length = kids.length ∧ ks.length = kids.length) ∧ ∀ j, j < kids.length → Fits d (kids.getD j default) (ks.getD j default)
theorem RAt.fits {X : RK} {h : Hp} : ∀ {d : Nat} {t : LT} {a : AT} {s : PS}, RAt X h d t a s → Fits d t s
  | 0, _, _, _, h => h.elim
  | d + 1, .mk .., .mk .., .mk .., ⟨_, _, h3, h4⟩ => ⟨⟨h3.2.1, h3.2.2.2⟩, fun j hj => (h4 j hj).fits⟩
/-- A pass of a right loop plays at least one step, and no count grows by more. -/
theorem passU_ok : ∀ (d : Nat) (t : LT) (s : PS) (n : Int), VL d t → Fits d t s → 0 ≤ n → PSB d t s n → 1 ≤ (passU d t s).2.length ∧ PSB d t (passU d t s).1 (n + (passU d t s).2.length) ∧ Fits d t (passU d t s).1
  | 0, _, _, _, h, _, _, _ => h.elim
  | d + 1, .mk kind item long many kids shares, .mk p cs ks, n, hv, hft, hn, hb => by
    obtain ⟨v1, v2, v3, v4, v5, v6, v7, v8⟩ := hv
    obtain ⟨⟨f1, f2⟩, f3⟩ := hft
    obtain ⟨c1, c2, c3⟩ := hb
    rw [passU_succ]
    have hnk : kind ≠ 1 → 0 < kids.length := fun h => List.length_pos_iff.2 (v3 h)
    have hidx := idxL_lt (many := many) (nx := nextF shares p cs) v1 hnk (fun h4 => by rw [← v5 h4]; exact bestTo_lt _ _ (by rw [v5 h4]; exact hnk (by omega))) c1.1
    have hne := fun h => idxL_ne (p := p) (nx := nextF shares p cs) v1 h (hnk h) (fun h5 => (v4 h5).2.1)
    have hnil : kind = 1 → idxL kind p many kids.length (nextF shares p cs) = [] := fun h => by unfold idxL; rw [if_pos h]
    generalize idxL kind p many kids.length (nextF shares p cs) = L at *
    -- the fold
    have key : ∀ (L : List Nat), (∀ i ∈ L, i < kids.length) → ∀ (a : (List Int × List PS) × List (ByteArray × Int)) (m : Int), 0 ≤ m → FOk d kids m a.1 → (∀ j, j < kids.length → Fits d (kids.getD j default) (a.1.2.getD j default)) →
        FOk d kids (m + ((L.foldl (stepU (passU d) kids) a).2.length - a.2.length)) (L.foldl (stepU (passU d) kids) a).1 ∧ (∀ j, j < kids.length → Fits d (kids.getD j default) ((L.foldl (stepU (passU d) kids) a).1.2.getD j default)) ∧
        a.2.length + L.length ≤ (L.foldl (stepU (passU d) kids) a).2.length := by
      intro L
      induction L with
      | nil => intro _ a m _ ha hfi; exact ⟨by simpa using ha, hfi, by simp⟩
      | cons i L ih =>
        intro hL a m hm ha hfi
        have hi := hL i (by simp)
        have hmem := getD_mem' kids i default hi
        obtain ⟨g1, g2, g3⟩ := passU_ok d (kids.getD i default) (a.1.2.getD i default) m (v8 _ hmem) (hfi i hi) hm (ha.2.2 i hi)
        obtain ⟨s1, s2⟩ := stepU_ok (f := passU d) ha hi rfl g1 g2
        have hfi2 : ∀ j, j < kids.length → Fits d (kids.getD j default) ((stepU (passU d) kids a i).1.2.getD j default) := fun j hj => by
          simp only [stepU]
          by_cases hij : i = j
          · subst hij; rw [getD_setS _ _ _ _ (by rw [ha.1.2]; exact hi)]; exact g3
          · rw [getD_setN _ _ _ _ _ hij]; exact hfi j hj
        obtain ⟨r1, r2, r3⟩ := ih (fun j hj => hL j (by simp [hj])) (stepU (passU d) kids a i) _ (by omega) s1 hfi2
        simp only [List.foldl_cons]
        refine ⟨?_, r2, by simp only [List.length_cons]; omega⟩
        have e : m + (((L.foldl (stepU (passU d) kids) (stepU (passU d) kids a i)).2.length : Int) - a.2.length) = m + ((passU d (kids.getD i default) (a.1.2.getD i default)).2.length) + (((L.foldl (stepU (passU d) kids) (stepU (passU d) kids a i)).2.length : Int) - (stepU (passU d) kids a i).2.length) := by rw [s2]; omega
        rw [e]; exact r1
    obtain ⟨r1, r2, r3⟩ := key L hidx ((cs, ks), if kind = 1 then [(item, long)] else []) n hn ⟨⟨f1, f2⟩, c2, c3⟩ f3
    have hlen : 1 ≤ (L.foldl (stepU (passU d) kids) ((cs, ks), if kind = 1 then [(item, long)] else [])).2.length ∧ n + (((L.foldl (stepU (passU d) kids) ((cs, ks), if kind = 1 then [(item, long)] else [])).2.length : Int) - (if kind = 1 then [(item, long)] else []).length) ≤ n + (L.foldl (stepU (passU d) kids) ((cs, ks), if kind = 1 then [(item, long)] else [])).2.length := by
      by_cases h1 : kind = 1
      · rw [hnil h1]; simp [h1]; omega
      · have := List.length_pos_iff.2 (hne h1)
        rw [if_neg h1] at r3 ⊢
        simp only [List.length_nil] at r3 ⊢
        omega
    refine ⟨hlen.1, ⟨by simp only []; omega, fun x hx => ⟨(r1.2.1 x hx).1, Int.le_trans (r1.2.1 x hx).2 hlen.2⟩, fun j hj => (r1.2.2 j hj).mono hlen.2⟩, ⟨r1.1, r2⟩⟩
/-- Other counts of the part itself. -/
theorem RAt.count {X : RK} {h : Hp} {d : Nat} {kind : Int} {item : ByteArray} {long many : Int} {kids : List LT} {shares : List Int} {i c : Nat} {az : List AT} {p : Int} {cs cs' : List Int} {ks : List PS}
    (hR : RAt X h (d + 1) (.mk kind item long many kids shares) (.mk i c az) (.mk p cs ks)) (hS : Sep (d + 1) (.mk i c az)) (hl : cs'.length = cs.length) (hl2 : (X.cf kind cs').length = kids.length) :
    RAt X { h with T := upd h.T c (some (.cont 1 ((X.cf kind cs').map encI))) } (d + 1) (.mk kind item long many kids shares) (.mk i c az) (.mk p cs' ks) := by
  obtain ⟨h1, h2, ⟨l1, l2, l3, l4⟩, h4⟩ := hR
  exact ⟨h1, upd_same _ _ _, ⟨hl2, by omega, l3, l4⟩, fun j hj => (h4 j hj).frame (fun _ _ => rfl) (fun x hx => upd_other _ _ (fun e => by subst e; exact (hS j (by omega)).1.2.1 hx))⟩
/-- One more pass was had. -/
theorem RAt.hadOne {X : RK} {h : Hp} {d : Nat} {kind : Int} {item : ByteArray} {long many : Int} {kids : List LT} {shares : List Int} {i c : Nat} {az : List AT} {p p' : Int} {cs : List Int} {ks : List PS} {K : AV}
    (hR : RAt X h (d + 1) (.mk kind item long many kids shares) (.mk i c az) (.mk p cs ks)) (hS : Sep (d + 1) (.mk i c az)) (hK : kidsC az K) :
    RAt X { h with H := upd h.H i (some (.cells (cells9 kind item long many kids shares K p' c ++ X.ex (.mk kind item long many kids shares)))) } (d + 1) (.mk kind item long many kids shares) (.mk i c az) (.mk p' cs ks) := by
  obtain ⟨h1, h2, ⟨l1, l2, l3, l4⟩, h4⟩ := hR
  exact ⟨⟨K, upd_same _ _ _, hK⟩, h2, ⟨l1, l2, l3, l4⟩, fun j hj => (h4 j hj).frame (fun x hx => upd_other _ _ (fun e => by subst e; exact (hS j (by omega)).1.1 hx)) (fun _ _ => rfl)⟩
theorem fold_mono {f : LT → PS → PS × List (ByteArray × Int)} {kids : List LT} : ∀ (L : List Nat) (a : (List Int × List PS) × List (ByteArray × Int)), a.2.length ≤ (L.foldl (stepU f kids) a).2.length
  | [], _ => Nat.le_refl _
  | i :: L, a => by
    have := fold_mono (f := f) (kids := kids) L (stepU f kids a i)
    simp only [List.foldl_cons]
    refine Nat.le_trans ?_ this
    simp [stepU]
end Go.Proofs.YtoleejecmefogaaDoor
/- loop.part.pass: the law of its state. -/
namespace Go.Proofs.YtoleejecmefogaaDoor
open Go
set_option maxRecDepth 100000
/-- What a pass of a part does: nothing if there are too many steps; else it plays, or there are too many then. -/
def PassRel (d : Nat) (t : LT) (s : PS) (out : List (ByteArray × Int)) (s' : PS) (out' : List (ByteArray × Int)) : Prop :=
  (5000 < out.length → s' = s ∧ out' = out) ∧ (out.length ≤ 5000 → out.length + (passU d t s).2.length ≤ 5000 → s' = (passU d t s).1 ∧ out' = out ++ (passU d t s).2) ∧
  (out.length ≤ 5000 → 5000 < out.length + (passU d t s).2.length → out'.length = 5001 ∧ PSB d t s' 5001)
def RunR (d : Nat) (kids : List LT) (out : List (ByteArray × Int)) (acc : (List Int × List PS) × List (ByteArray × Int)) (cs : List Int) (ks : List PS) (out' : List (ByteArray × Int)) : Prop :=
  FOk d kids out'.length (cs, ks) ∧ out'.length ≤ 5001 ∧ (out.length + acc.2.length ≤ 5000 → (cs, ks) = acc.1 ∧ out' = out ++ acc.2) ∧ (5000 < out.length + acc.2.length → out'.length = 5001)
theorem set_getD {α : Type} (l : List α) (x : Nat) (d : α) : l.set x (l.getD x d) = l := by
  by_cases h : x < l.length
  · rw [List.getD_eq_getElem?_getD, List.getElem?_eq_getElem h]; simp
  · rw [List.set_eq_of_length_le (by omega)]
theorem RunR.step {d : Nat} {kids : List LT} {out : List (ByteArray × Int)} {acc : (List Int × List PS) × List (ByteArray × Int)} {cs : List Int} {ks : List PS} {out' : List (ByteArray × Int)} (hR : RunR d kids out acc cs ks out') {x : Nat} (hx : x < kids.length)
    (hv : VL d (kids.getD x default)) (hf : Fits d (kids.getD x default) (ks.getD x default)) {s'' : PS} {out'' : List (ByteArray × Int)} (hp : PassRel d (kids.getD x default) (ks.getD x default) out' s'' out'') :
    RunR d kids out (stepU (passU d) kids acc x) (if out.length + acc.2.length ≤ 5000 then cs.set x (cs.getD x 0 + 1) else cs) (ks.set x s'') out'' := by
  obtain ⟨h1, h2, h3, h4⟩ := hR
  obtain ⟨p1, p2, p3⟩ := hp
  obtain ⟨⟨f1, f2⟩, f3, f4⟩ := id h1
  have hpo := passU_ok d (kids.getD x default) (ks.getD x default) out'.length hv hf (by omega) (f4 x hx)
  by_cases hex : out.length + acc.2.length ≤ 5000
  · rw [if_pos hex]
    obtain ⟨e1, e2⟩ := h3 hex
    have e3 : acc.1.1 = cs := by rw [← e1]
    have e4 : acc.1.2 = ks := by rw [← e1]
    have e5 : out'.length = out.length + acc.2.length := by rw [e2, List.length_append]
    have hst : (stepU (passU d) kids acc x).1 = (cs.set x (cs.getD x 0 + 1), ks.set x (passU d (kids.getD x default) (ks.getD x default)).1) := by simp only [stepU, e3, e4]
    have hs2 : (stepU (passU d) kids acc x).2 = acc.2 ++ (passU d (kids.getD x default) (ks.getD x default)).2 := by simp only [stepU, e4]
    by_cases hk : out'.length + (passU d (kids.getD x default) (ks.getD x default)).2.length ≤ 5000
    · obtain ⟨rfl, rfl⟩ := p2 (by omega) hk
      have hh : FOk d kids out'.length acc.1 := by rw [← e1]; exact h1
      obtain ⟨s1, s2⟩ := stepU_ok (f := passU d) (a := acc) hh hx (by rw [e4]) hpo.1 (by rw [e4]; exact hpo.2.1)
      rw [hst] at s1
      refine ⟨by rw [List.length_append]; exact_mod_cast s1, by rw [List.length_append]; omega, fun _ => ⟨hst.symm, by rw [hs2, e2, List.append_assoc]⟩, fun h => ?_⟩
      rw [hs2, List.length_append] at h; omega
    · obtain ⟨q1, q2⟩ := p3 (by omega) (by omega)
      have q1' : (out''.length : Int) = 5001 := by omega
      refine ⟨⟨⟨by simpa using f1, by simpa using f2⟩, fun y hy => ?_, fun j hj => ?_⟩, by omega, fun h => ?_, fun _ => q1⟩
      · rw [q1']
        rcases mem_set_or hy with h | h
        · have := f3 y h; omega
        · have := f3 _ (getD_mem' cs x 0 (show x < cs.length from by have : cs.length = kids.length := f1; omega)); omega
      · rw [q1']
        show PSB d (kids.getD j default) ((ks.set x s'').getD j default) 5001
        by_cases hxj : x = j
        · subst hxj; rw [getD_setS _ _ _ _ (by have : ks.length = kids.length := f2; omega)]; exact q2
        · rw [getD_setN _ _ _ _ _ hxj]; exact (f4 j hj).mono (by omega)
      · rw [hs2, List.length_append] at h; omega
  · rw [if_neg hex]
    have e5 := h4 (by omega)
    obtain ⟨rfl, rfl⟩ := p1 (by omega)
    rw [set_getD]
    have hs2 : acc.2.length ≤ (stepU (passU d) kids acc x).2.length := by simp [stepU]
    exact ⟨h1, h2, fun h => by omega, fun _ => e5⟩
def oEx : List AV := [.v (.int .i64 5000)]
def St2 (d : Nat) (t : LT) (kids : List LT) (a : AT) (p : Int) (h : Hp) (o k : Nat) (out : List (ByteArray × Int)) (acc : (List Int × List PS) × List (ByteArray × Int)) (h1 : Hp) (cs : List Int) (ks : List PS) (out' : List (ByteArray × Int)) : Prop :=
  RAt XP h1 (d + 1) t a (.mk p cs ks) ∧ OutAt h1 o k oEx out' ∧ FrP a o k h h1 ∧ RunR d kids out acc cs ks out'
/-- What a call of a kid's pass gives. -/
def PRp (d : Nat) (t : LT) (a : AT) (s : PS) (h : Hp) (o k : Nat) (out : List (ByteArray × Int)) (r : AV) (h' : Hp) : Prop :=
  r = .tup [] ∧ ∃ s' out', RAt XP h' d t a s' ∧ OutAt h' o k oEx out' ∧ FrP a o k h h' ∧ PassRel d t s out s' out'
theorem RAt.counts {h : Hp} {d : Nat} {kind : Int} {item : ByteArray} {long many : Int} {kids : List LT} {shares : List Int} {a : AT} {p : Int} {cs cs' : List Int} {ks : List PS} (h4 : kind ≠ 4) (hl : cs'.length = cs.length)
    (hR : RAt XP h (d + 1) (.mk kind item long many kids shares) a (.mk p cs ks)) : RAt XP h (d + 1) (.mk kind item long many kids shares) a (.mk p cs' ks) := by
  cases a with
  | mk i c az =>
    obtain ⟨h1, h2, ⟨l1, l2, l3, l4⟩, h5⟩ := hR
    have e : XP.cf kind cs' = XP.cf kind cs := by simp only [XP, if_neg h4, hl]
    exact ⟨h1, by rw [e]; exact h2, ⟨by rw [e]; exact l1, by omega, l3, l4⟩, h5⟩
theorem St2.next {d : Nat} {kind : Int} {item : ByteArray} {long many : Int} {kids : List LT} {shares : List Int} {i c : Nat} {az : List AT} {p : Int} {h : Hp} {o k : Nat} {out : List (ByteArray × Int)} {acc : (List Int × List PS) × List (ByteArray × Int)} {h1 : Hp} {cs : List Int} {ks : List PS} {out' : List (ByteArray × Int)}
    (hs : St2 d (.mk kind item long many kids shares) kids (.mk i c az) p h o k out acc h1 cs ks out') (h4 : kind ≠ 4) (hS : Sep (d + 1) (.mk i c az)) (ho : o ∉ idsT (.mk i c az)) {x : Nat} (hx : x < kids.length) (hv : VL d (kids.getD x default))
    {r : AV} {h3 : Hp} (hp : PRp d (kids.getD x default) (az.getD x default) (ks.getD x default) h1 o k out' r h3) : ∃ cs' ks' out'', St2 d (.mk kind item long many kids shares) kids (.mk i c az) p h o k out (stepU (passU d) kids acc x) h3 cs' ks' out'' := by
  obtain ⟨g1, g2, g3, g4⟩ := hs
  obtain ⟨rfl, s', out'', r1, r2, r3, r4⟩ := hp
  obtain ⟨_, _, ⟨l1, l2, l3, l4⟩, hk⟩ := id g1
  have hkt := g1.tokNe g2.2
  refine ⟨if out.length + acc.2.length ≤ 5000 then cs.set x (cs.getD x 0 + 1) else cs, ks.set x s', out'', (g1.kid hS ho hkt hx r1 r3).counts h4 (by split <;> simp), r2, g3.trans (r3.kid (by omega)), g4.step hx hv (hk x hx).fits r4⟩
/-- What a call of a kid's pass asks. -/
theorem St2.ask {d : Nat} {kind : Int} {item : ByteArray} {long many : Int} {kids : List LT} {shares : List Int} {i c : Nat} {az : List AT} {p : Int} {h : Hp} {o k : Nat} {out : List (ByteArray × Int)} {acc : (List Int × List PS) × List (ByteArray × Int)} {h1 : Hp} {cs : List Int} {ks : List PS} {out' : List (ByteArray × Int)}
    (hs : St2 d (.mk kind item long many kids shares) kids (.mk i c az) p h o k out acc h1 cs ks out') (hS : Sep (d + 1) (.mk i c az)) (ho : o ∉ idsT (.mk i c az)) {x : Nat} (hx : x < kids.length) :
    RAt XP h1 d (kids.getD x default) (az.getD x default) (ks.getD x default) ∧ Sep d (az.getD x default) ∧ PSB d (kids.getD x default) (ks.getD x default) out'.length ∧ OutAt h1 o k oEx out' ∧ o ∉ idsT (az.getD x default) ∧ out'.length ≤ 5001 := by
  obtain ⟨g1, g2, g3, g4⟩ := hs
  obtain ⟨_, _, ⟨l1, l2, l3, l4⟩, hk⟩ := id g1
  exact ⟨hk x hx, (hS x (by omega)).1.2.2, g4.1.2.2 x hx, g2, fun hh => ho (idsT_kid (by omega) hh), g4.2.1⟩
/-- The node's own cells. -/
theorem St2.cells {d : Nat} {kind : Int} {item : ByteArray} {long many : Int} {kids : List LT} {shares : List Int} {i c : Nat} {az : List AT} {p : Int} {h : Hp} {o k : Nat} {out : List (ByteArray × Int)} {acc : (List Int × List PS) × List (ByteArray × Int)} {h1 : Hp} {cs : List Int} {ks : List PS} {out' : List (ByteArray × Int)}
    (hs : St2 d (.mk kind item long many kids shares) kids (.mk i c az) p h o k out acc h1 cs ks out') (hne : kids ≠ []) : (∃ tk, h1.H i = some (.cells [.v (.int .i64 kind), .v (.string item), .v (.int .i64 long), .v (.int .i64 many), .row 6 (kids.map encL) none, .row 1 (shares.map encI) none, .row 1 (az.map fun a => [.ptr a.id 0]) tk, .v (.int .i64 p), .arr 1 c kids.length, .v (.int .i64 shares.sum)])) ∧ az.length = kids.length := by
  obtain ⟨⟨⟨K, h1, hK⟩, _, ⟨l1, l2, l3, l4⟩, _⟩, _⟩ := hs
  refine ⟨?_, l3⟩
  rcases hK with ⟨rfl, _⟩ | ⟨tk, rfl⟩
  · simp at l3; exact absurd (List.eq_nil_of_length_eq_zero l3.symm) hne
  · exact ⟨tk, h1⟩
end Go.Proofs.YtoleejecmefogaaDoor
