/- The law FilesProved returns true at every slice of ints. -/
import Derived.Test.YtegalkmfoffpfaaGreatDoorTwigLib
import Derived.Test.YtegalkmfoffpfaaGreatDoorOrs
import Derived.Test.YtegalkmfoffpfaaGreatDoorGenMan2
import Derived.Test.YtegalkmfoffpfaaGreatDoorSynced
import Derived.Deep.CutBlock
namespace Go.Proofs.YtegalkmfoffpfaaGreatDoor
open Go.RowKit
attribute [local go_sem ↓] Go.wp_at_zero Go.wp_at_succ

theorem filesAt_short {w : World} {base lo n : Nat} {v : Value} (h : FiWf w base lo v n) : ∃ fs : List FileD, fs.length = n ∧ FilesOk fs ∧ (∀ f ∈ fs, Short f) ∧ FilesAt w base v fs := by
  obtain ⟨ps, h1, h2, h3⟩ := h
  have hc : ∀ p : {p // p ∈ ps}, ∃ cs : List ChunkD, cs.length ≤ 3 ∧ (∀ c ∈ cs, okCh c) ∧ Lst w base 2 p.1.2 (cs.flatMap chC) := fun p => let ⟨cs, _, b, c, d⟩ := (h3 p.1 p.2).2; ⟨cs, b, c, .of_own d⟩
  let F : {p // p ∈ ps} → FileD := fun p => (p.1.1, (hc p).choose)
  refine ⟨ps.attach.map F, by simpa using h1, ?_, ?_, ps, .of_own h2, by simp, ?_⟩
  · intro f hf
    obtain ⟨p, hp, rfl⟩ := List.mem_map.1 hf
    have hs := (hc p).choose_spec
    refine ⟨by have := (h3 p.1 p.2).1; show p.1.1.size ≤ _; omega, by have := hs.1; show (hc p).choose.length ≤ _; omega, fun c hcc => ?_⟩
    have := hs.2.1 c hcc
    unfold okCh at this
    exact ⟨by omega, by omega, by omega⟩
  · intro f hf
    obtain ⟨p, hp, rfl⟩ := List.mem_map.1 hf
    have hs := (hc p).choose_spec
    refine ⟨(h3 p.1 p.2).1, hs.1, fun c hcc => ?_⟩
    have := hs.2.1 c hcc
    unfold okCh at this
    exact this.1
  · intro i hi
    have hip : i < ps.length := by simpa using hi
    refine ⟨ps[i].2, ?_, ?_⟩
    · simp [F, List.getElem?_eq_getElem hip]
    · simp only [List.getElem_map, List.getElem_attach]
      exact (hc ⟨ps[i], List.getElem_mem hip⟩).choose_spec.2.2

/-! ### Root and Proof, whatever they answer -/
def rootR (no : Int) (fs : List FileD) : ByteArray := if manF no fs = 0 then rootS (leavesS fs) else ⟨#[]⟩
theorem root_all (no : Int) (A : Option Addr) (lo c : Nat) (fs : List FileD) (w : World) (ht : Tab w) (hf : FilesAt w lo (.slice A fs.length c) fs) (hok : FilesOk fs) (hsh : ∀ f ∈ fs, Short f) (hn : fs.length ≤ 300) :
    Calls Tryz.prog 9 #[.agg #[.int .i64 no, .slice A fs.length c]] w fun e w' => e = .returned (.tuple #[.string (rootR no fs), .int .i64 (manF no fs)]) ∧ Below w.heap.size w w' := by
  by_cases h : manF no fs = 0
  · refine (root_any no A lo c fs w ht hf hok hsh hn h).mono ?_
    rintro e w1 ⟨rfl, hb⟩
    exact ⟨by rw [rootR, if_pos h, h], hb⟩
  · refine (root_no no A lo c fs w hf hok hn (bne_iff_ne.2 h)).mono ?_
    rintro e w1 ⟨rfl, hb⟩
    exact ⟨by rw [rootR, if_neg h], hb⟩
theorem climb_le (l : List ByteArray) : ∀ i, (climb i l).length ≤ l.length := by
  intro i
  induction i with
  | zero => simp [climb]
  | succ i ih => have e : (climb (i + 1) l).length = ((climb i l).length + 1) / 2 := pairS_len _; omega
theorem rootS_16 (l : List ByteArray) (h : ∀ s ∈ l, s.size ≤ 16) : (rootS l).size ≤ 16 := by
  unfold rootS
  split
  · exact Nat.le_of_eq (sumS_size _)
  · rename_i a r e
    exact climb_16 h l.length a (by rw [e]; simp)
theorem rootR_16 (no : Int) (fs : List FileD) : (rootR no fs).size ≤ 16 := by
  unfold rootR
  split
  · exact rootS_16 _ (leaves_16 fs)
  · decide
/-- The twigs of a proof: few, and short. -/
theorem twTo_ok {l : List ByteArray} (h : ∀ s ∈ l, s.size ≤ 16) (k : Nat) : ∀ j, ∀ t ∈ twTo l k j, t.2.size ≤ 16
  | 0 => by simp [twTo]
  | j + 1 => by
    intro t ht
    rw [twTo, List.mem_append] at ht
    rcases ht with ht | ht
    · exact twTo_ok h k j t ht
    · have hg : ∀ i, ((climb j l).getD i ⟨#[]⟩).size ≤ 16 := by
        intro i
        rcases Nat.lt_or_ge i (climb j l).length with h1 | h1
        · rw [getD_at _ _ h1]; exact climb_16 h j _ (List.getElem_mem h1)
        · rw [List.getD, List.getElem?_eq_none h1]; decide
      unfold twAt at ht
      split at ht
      · simp at ht; subst ht; exact hg _
      · split at ht
        · simp at ht; subst ht; exact hg _
        · simp at ht
/-- What Proof answers: no twigs and an error, or those of the key's place. -/
def GotP (no : Int) (fs : List FileD) (key : ByteArray) (w : World) (e : Ending) (w' : World) : Prop :=
  ∃ (v : Value) (ts : List TwigD), e = .returned (.tuple #[v, .int .i64 (proofF no fs key)]) ∧ w'.ownsRow w.heap.size 46 2 v ts.length (ts.flatMap twC) ∧ ts.length ≤ 5 ∧ (∀ t ∈ ts, t.2.size ≤ 16) ∧
    (proofF no fs key ≠ 0 → ts = []) ∧ (proofF no fs key = 0 → ∃ j k : Nat, keyAt key fs = k ∧ Climbs (leavesS fs) j ∧ (climb j (leavesS fs)).length ≤ 1 ∧ ts = twTo (leavesS fs) k j) ∧ Below w.heap.size w w'
theorem proofF_zero {no : Int} {fs : List FileD} {key : ByteArray} (h : proofF no fs key = 0) : manF no fs = 0 ∧ keyB key = true ∧ 0 ≤ keyAt key fs := by
  unfold proofF at h
  split at h
  · rename_i h1
    split at h
    · rename_i h2
      split at h
      · rename_i h3; exact ⟨h1, h2, h3⟩
      · omega
    · omega
  · rename_i h1; exact absurd h h1
theorem proof_all (no : Int) (A : Option Addr) (lo c : Nat) (fs : List FileD) (key : ByteArray) (w : World) (ht : Tab w) (hf : FilesAt w lo (.slice A fs.length c) fs) (hok : FilesOk fs) (hsh : ∀ f ∈ fs, Short f) (hn : fs.length ≤ 5) (hks : key.size ≤ 1000) :
    Calls Tryz.prog 12 #[.agg #[.int .i64 no, .slice A fs.length c], .string key] w (GotP no fs key w) := by
  by_cases h : proofF no fs key = 0
  · obtain ⟨h1, h2, h3⟩ := proofF_zero h
    obtain ⟨k, hk, hkl⟩ := keyAt_nat h3
    refine (proof_any no A lo c k fs key w ht hf hok hsh (by omega) hks h1 h2 hk).mono ?_
    rintro e w1 ⟨j, v, hcl, htop, rfl, hown, hb⟩
    have hll : (leavesS fs).length = fs.length := by simp [leavesS]
    have := hcl.len
    have := twTo_len (leavesS fs) k j
    exact ⟨v, _, by rw [h], hown, by omega, twTo_ok (leaves_16 fs) k j, fun h' => absurd h h', fun _ => ⟨j, k, hk, hcl, htop, rfl⟩, hb⟩
  · refine (proof_no no A lo c fs key w hf hok (by omega) hks (bne_iff_ne.2 h)).mono ?_
    rintro e w1 ⟨rfl, hb⟩
    exact ⟨_, [], rfl, World.ownsRow_nil _ _ _ _, by simp, by simp, fun _ => rfl, fun h' => absurd h' h, hb⟩

/-! ### The law -/
theorem orF_two {no : Int} {fs : List FileD} {key : ByteArray} (h : orF [manF no fs, keyF key] = 0) : manF no fs = 0 ∧ keyB key = true := by
  unfold orF at h
  split at h
  · rename_i h1
    refine ⟨h1, ?_⟩
    unfold orF at h
    split at h
    · rename_i h2
      unfold keyF at h2
      split at h2
      · assumption
      · omega
    · rename_i h2; exact absurd h h2
  · rename_i h1; exact absurd h h1
theorem proofF_or {no : Int} {fs : List FileD} (key : ByteArray) (h : ¬ orF [manF no fs, keyF key] = 0) : proofF no fs key = orF [manF no fs, keyF key] := by
  unfold orF at h ⊢
  by_cases h1 : manF no fs = 0
  · rw [if_pos h1] at h ⊢
    rcases Bool.eq_false_or_eq_true (keyB key) with h2 | h2
    · exact absurd (by simp [orF, keyF, h2]) h
    · rw [proofF, if_pos h1, h2]; simp [orF, keyF, h2]
  · rw [if_neg h1, proofF, if_neg h1]
theorem two_set {w : World} {X : Nat} {u v u' v' : Value} {t : TypeId} (h : w.heap[X]? = some (.cells #[u, v] t (0, 0))) : ((w.setCell ⟨X, 0, none⟩ u').setCell ⟨X, 1, none⟩ v').heap[X]? = some (.cells #[u', v'] t (0, 0)) := by
  have h1 : (w.setCell ⟨X, 0, none⟩ u').heap[X]? = some (.cells #[u', v] t (0, 0)) := by simp [World.setCell, Array.getElem?_modify, h]
  exact stream_set h1
/-- The box x holds a file. -/
def XRel (fs : List FileD) (w0 : World) (lo : Nat) (g : Nat) (i : Value) (wr : World) : Prop :=
  ∃ (k : Nat) (f : FileD) (B : Option Addr) (d : Nat), k + g = fs.length ∧ i = .int .i64 k ∧ wr.heap[w0.heap.size]? = some (.cells #[.string f.1, .slice B f.2.length d] 52 (0, 0)) ∧ Lst w0 lo 2 (.slice B f.2.length d) (f.2.flatMap chC) ∧ Short f ∧ FilesOk [f] ∧ Below w0.heap.size w0 wr
/-- Behind the switch. -/
def LawSt (w : World) (X : Nat) (f : FileD) (B : Option Addr) (d : Nat) (s15 s6 : Value) (wx : World) : Prop :=
  ∃ (root : ByteArray) (ts : List TwigD) (A : Option Addr) (c : Nat), s6 = .string root ∧ root.size ≤ 1000 ∧ s15 = .slice A ts.length c ∧ Lst wx 0 2 (.slice A ts.length c) (ts.flatMap twC) ∧ TwOk ts ∧
    wx.cell? ⟨X, 0, none⟩ = some (.string f.1) ∧ wx.cell? ⟨X, 1, none⟩ = some (.slice B f.2.length d) ∧ Lst wx 0 2 (.slice B f.2.length d) (f.2.flatMap chC) ∧ Tab wx ∧ Below w.heap.size w wx
theorem IsStream.belowAt {ts : TypeId} {w w' : World} {b M B : Nat} (h : IsStream ts w b M) (hb : Below B w w') (hB : b < B) : IsStream ts w' b M := by
  obtain ⟨a, len, cap, at_, hh, h1, h2, h3⟩ := h
  refine ⟨a, len, cap, at_, (hb.block b hB).trans hh, h1, h2, fun h0 => ?_⟩
  obtain ⟨x, hx, hxb, hs, hc⟩ := h3 h0
  refine ⟨x, hx, hxb, hs, fun i hi => ?_⟩
  obtain ⟨z, hz⟩ := hc i hi
  exact ⟨z, (hb.cell (p := ⟨x.block, x.off + i, none⟩) (by show x.block < _; omega)).trans hz⟩
/-- What stands all the way through the switch: the stream, the box, the chunks. -/
structure SwSt (w : World) (b M : Nat) (W : World) (f : FileD) (B : Option Addr) (d : Nat) (wx : World) : Prop where
  s : IsStream 25 wx b M
  x : wx.heap[W.heap.size]? = some (.cells #[.string f.1, .slice B f.2.length d] 52 (0, 0))
  k : ∀ k, k < W.heap.size → k ≠ b → wx.heap[k]? = W.heap[k]?
  b : Below w.heap.size w wx
section
variable {w W : World} {b M j : Nat} {f : FileD} {B : Option Addr} {d : Nat} {wx wy : World}
theorem SwSt.belowAt {lo : Nat} (h : SwSt w b M W f B d wx) (k : Below lo wx wy) (hlo : W.heap.size < lo) (hb : b < W.heap.size) (hw : w.heap.size ≤ b) : SwSt w b M W f B d wy :=
  ⟨h.s.belowAt k (by omega), (k.block _ hlo).trans h.x, fun i hi hne => (k.block i (by omega)).trans (h.k i hi hne), h.b.trans (k.mono (by omega))⟩
theorem SwSt.below (h : SwSt w b M W f B d wx) (k : Below wx.heap.size wx wy) : SwSt w b M W f B d wy :=
  have hl := block_lt h.x
  ⟨h.s.below k, (k.block _ hl).trans h.x, fun i hi hne => (k.block i (by omega)).trans (h.k i hi hne), bon h.b k⟩
theorem SwSt.goes (h : SwSt w b M W f B d wx) (k : Goes 25 b M j wx wy) (hX : b < W.heap.size) (hw : w.heap.size ≤ b) : SwSt w b (M + j) W f B d wy :=
  have hl := block_lt h.x
  ⟨k.is, (k.gb.block _ hl (fun e => by injection e with e; omega)).trans h.x, fun i hi hne => (k.gb.block i (by omega) (fun e => by injection e with e; omega)).trans (h.k i hi hne), below_gb h.b k.gb hw⟩
theorem SwSt.end_ {A : Option Addr} {c : Nat} {root : ByteArray} {ts : List TwigD} (h : SwSt w b M W f B d wx) (hL : Lst W (b + 1) 2 (.slice B f.2.length d) (f.2.flatMap chC)) (ht : Tab w) (hr : root.size ≤ 1000) (hl : Lst wx 0 2 (.slice A ts.length c) (ts.flatMap twC)) (hk : TwOk ts) :
    LawSt w W.heap.size f B d (.slice A ts.length c) (.string root) wx :=
  have hlt := block_lt h.x
  ⟨root, ts, A, c, rfl, hr, rfl, hl, hk, (stream_cells h.x).1, (stream_cells h.x).2.1, (hL.keep (by omega) (fun i hi h2 => h.k i h2 (by omega))).mono (Nat.zero_le _), ht.below h.b, h.b⟩
end
theorem own_slice {w : World} {base e n : Nat} {v : Value} {ts : List TwigD} (h : w.ownsRow base e 2 v n (ts.flatMap twC)) (hn : n = ts.length) : ∃ A c, v = .slice A ts.length c ∧ Lst w base 2 v (ts.flatMap twC) := by
  have h1 := Lst.of_own h
  obtain ⟨A, m, c, rfl⟩ := own_form h
  obtain rfl := own_len h
  subst hn
  exact ⟨A, c, rfl, h1⟩
theorem twOk_snoc {ts : List TwigD} {fl : Bool} {tx : ByteArray} (h5 : ts.length ≤ 5) (h : ∀ t ∈ ts, t.2.size ≤ 16) (hx : tx.size ≤ 16) : TwOk (ts ++ [(fl, tx)]) := by
  refine ⟨by simp; omega, fun t ht => ?_⟩
  rw [List.mem_append] at ht
  rcases ht with ht | ht
  · have := h t ht; omega
  · simp at ht; subst ht; show tx.size ≤ 1000; omega
theorem own_ge {w : World} {base size n : Nat} {e : TypeId} {v : Value} {xs : List Value} (h : w.ownsRow base e size v n xs) : n = 0 ∨ base ≤ w.heap.size := by
  rcases h.2 with ⟨_, h0⟩ | ⟨g, cap, cur, rfl, hg, hh, _⟩
  · exact .inl h0
  · exact .inr (Nat.le_of_lt (Nat.lt_of_le_of_lt hg (block_lt hh)))
theorem rep_size (x : UInt8) : (ByteArray.mk (Lib.repeatL [x] 16).toArray).size = 16 := by
  show (Lib.repeatL [x] 16).toArray.size = 16
  rw [List.size_toArray, Lib.repeatL_length]; rfl

set_option maxRecDepth 100000 in
set_option maxHeartbeats 8000000 in
theorem filesProved_walk (a : Option Addr) (len cap : Nat) (zs : List Int) (w : World) (h : IsRow .i64 w a len cap zs) (hgl : Tab w) :
    Calls Tryz.prog 3 #[.slice a len cap] w fun e w' => e = .returned (.bool true) ∧ Below w.heap.size w w' := by
  have hs0 := isStream_new (ts := 25) h
  have HT := Lib.hid hgl
  clear h hgl
  obtain ⟨ti, ti0, tz0, tz1, tz2⟩ := info_parts infoTwig
  go_enter Tryz.func3, Tryz.ntmps3
  go_wp2_with fail
  refine (manifest_any _ 0 1 _ hs0 (by omega) (by omega) (by omega)).mono ?_
  rintro e w1 ⟨v, n, no, hn5, hno0, hno1, rfl, hfi, g1⟩
  obtain ⟨fs, hfl, hok, hsh, hfa⟩ := filesAt_short hfi
  obtain ⟨A, c, rfl⟩ := hfa.form
  subst hfl
  simp only [World.size_alloc] at hfa
  have z1 := g1.gb.size
  simp only [World.size_alloc] at z1
  have HOK := Lib.hid hok
  have HSH := Lib.hid hsh
  have FA1 := Lib.hid hfa
  clear hfi hok hsh hfa
  go_wp2_with fail
  refine (some_any _ _ w1.heap.size [⟨#[102, 97]⟩, ⟨#[102, 98]⟩, ⟨#[102, 99]⟩, ⟨#[102, 100]⟩, ⟨#[102, 101]⟩, ⟨#[102, 122]⟩, ⟨#[65]⟩] 7 7 _ 9 (g1.is.alloc _) (by omega) rfl (by omega) (by omega) (heap_alloc_new _ _) (by omega)).mono ?_
  rintro e w2 ⟨key, hkey, rfl, g2⟩
  have hk2 : key.size ≤ 2 := by
    have := List.all_eq_true.1 (show ([⟨#[102, 97]⟩, ⟨#[102, 98]⟩, ⟨#[102, 99]⟩, ⟨#[102, 100]⟩, ⟨#[102, 101]⟩, ⟨#[102, 122]⟩, ⟨#[65]⟩] : List ByteArray).all (fun r => decide (r.size ≤ 2)) = true by decide) key hkey
    simpa using this
  have G2 := g1.trans g2.of_alloc (Nat.le_refl _)
  have FA2 := Lib.hid ((FA1.out.below (bfirst w1 _)).grown g2.gb (by omega))
  have B2 : Below w.heap.size w w2 := below_gb ((Below.refl _ _).alloc (Nat.le_refl _) _) G2.gb (Nat.le_refl _)
  have S2 := Lib.hid G2.is
  have z2 := B2.size
  have hlt2 := G2.is.lt
  clear hkey g1 g2 G2 FA1 z1 hs0
  go_wp2_with fail
  have B2' := bbox B2 (.cells #[.int .i64 no, .slice A fs.length c] 28)
  refine (root_all no A _ c fs _ (HT.out.below B2') (FA2.out.below (bfirst w2 _)) HOK.out HSH.out (by omega)).mono ?_
  rintro e w3 ⟨rfl, b3⟩
  have B3 := bon B2' b3
  have FA3 := Lib.hid ((FA2.out.below (bfirst w2 (.cells #[.int .i64 no, .slice A fs.length c] 28))).below b3)
  have S3 := Lib.hid ((S2.out.alloc (.cells #[.int .i64 no, .slice A fs.length c] 28)).below b3)
  have c0 := bboxed b3 0 _ rfl
  have c1 := bboxed b3 1 _ rfl
  have l3 := blt b3
  clear b3 B2' B2 FA2 S2
  go_wp2_with fail
  refine (manifestFault_any no A _ c fs _ FA3.out HOK.out (by omega)).mono ?_
  rintro e w4 ⟨rfl, b4⟩
  have B4 := bon B3 b4
  have FA4 := Lib.hid (FA3.out.below b4)
  have S4 := Lib.hid (S3.out.below b4)
  have d0 := bold b4 c0
  have d1 := bold b4 c1
  have l4 : w2.heap.size < w4.heap.size := World.block_lt_of_cell? w4 _ d0
  have hr16 := rootR_16 no fs
  have HR0 := Lib.hid (fun h : manF no fs = 0 => show rootR no fs = rootS (leavesS fs) by rw [rootR, if_pos h])
  have HR1 := Lib.hid (fun h : ¬ manF no fs = 0 => show rootR no fs = ⟨#[]⟩ by rw [rootR, if_neg h])
  clear b4 B3 FA3 S3 c0 c1 l3
  generalize rootR no fs = root at *
  go_upto_region 5 with fail
  go_cut [52] (fun s wx => s = .bool false ∧ Below w4.heap.size w4 wx)
  case first =>
    by_cases hm : manF no fs = 0
    · obtain rfl := HR0.out hm
      have hm1 : (manF no fs == 0) = true := beq_iff_eq.2 hm
      have hm2 : (manF no fs != 0) = false := by simp [hm]
      clear hm HR0 HR1
      go_wp2_with fail
      refine (rootOf_any no A _ c fs _ (HT.out.below B4) FA4.out HSH.out (by omega)).mono ?_
      rintro e w5 ⟨rfl, b5⟩
      go_wp2_with fail
      go_meet
      exact ⟨rfl, b5⟩
    · obtain rfl := HR1.out hm
      have hm1 : (manF no fs == 0) = false := beq_eq_false_iff_ne.2 hm
      have hm2 : (manF no fs != 0) = true := bne_iff_ne.2 hm
      clear hm HR0 HR1
      go_wp2_with fail
      go_meet
      exact ⟨rfl, Below.refl _ _⟩
  case rest =>
    obtain ⟨rfl, b5⟩ := hcut
    have B5 := bon B4 b5
    have FA5 := Lib.hid (FA4.out.below b5)
    have S5 := Lib.hid (S4.out.below b5)
    have e0 := bold b5 d0
    have e1 := bold b5 d1
    have l5 : w2.heap.size < wc.heap.size := World.block_lt_of_cell? wc _ e0
    clear b5 B4 FA4 S4 d0 d1 l4 HR0 HR1
    go_wp2_with fail
    refine (proof_all no A _ c fs key _ (HT.out.below B5) FA5.out HOK.out HSH.out hn5 (by omega)).mono ?_
    rintro e w6 ⟨v6, ts, rfl, own6, hts5, hts16, hno, hyes, b6⟩
    have B6 := bon B5 b6
    have FA6 := Lib.hid (FA5.out.below b6)
    have S6 := Lib.hid (S5.out.below b6)
    have f0 := bold b6 e0
    have f1 := bold b6 e1
    have l6 : w2.heap.size < w6.heap.size := World.block_lt_of_cell? w6 _ f0
    have O6 := Lib.hid own6
    have HNO := Lib.hid hno
    have HYES := Lib.hid hyes
    have HTS := Lib.hid hts16
    have zw5 := B5.size
    have lb5 := S5.out.lt
    clear b6 B5 FA5 S5 e0 e1 l5 own6 hno hyes hts16
    go_wp2_with fail
    refine (keyFault_any key (by omega) _).mono ?_
    rintro e w7 ⟨rfl, b7⟩
    have B7 := bon B6 b7
    have FA7 := Lib.hid (FA6.out.below b7)
    have S7 := Lib.hid (S6.out.below b7)
    have O7 := Lib.hid (ownsRow_below O6.out b7)
    have h0 := bold b7 f0
    have h1 := bold b7 f1
    have l7 : w2.heap.size < w7.heap.size := World.block_lt_of_cell? w7 _ h0
    clear b7 B6 FA6 S6 O6 f0 f1 l6
    go_wp2_with fail
    refine (or_any w7.heap.size 2 2 [manF no fs, keyF key] 31 _ rfl (by omega) (heap_alloc_new _ _)).mono ?_
    rintro e w8 ⟨rfl, rfl⟩
    obtain ⟨w8, hw8⟩ : ∃ w8, w8 = w7.alloc (.cells (List.map (Value.int .i64) [manF no fs, keyF key]).toArray 31) := ⟨_, rfl⟩
    have b8 : Below w7.heap.size w7 w8 := by rw [hw8]; exact bfirst _ _
    rw [← hw8]
    clear hw8
    have B8 := bon B7 b8
    have FA8 := Lib.hid (FA7.out.below b8)
    have S8 := Lib.hid (S7.out.below b8)
    have O8 := Lib.hid (ownsRow_below O7.out b8)
    have i0 := bold b8 h0
    have i1 := bold b8 h1
    have l8 : w2.heap.size < w8.heap.size := World.block_lt_of_cell? w8 _ i0
    clear b8 B7 FA7 S7 O7 h0 h1 l7
    obtain ⟨A6, c6, rfl, L8⟩ := own_slice O8.out rfl
    have HL8 := Lib.hid L8
    clear L8
    go_upto_if 65 with fail
    have HOF0 := Lib.hid (fun h : orF [manF no fs, keyF key] = 0 => orF_two h)
    have HOF1 := Lib.hid (fun h : ¬ orF [manF no fs, keyF key] = 0 => proofF_or key h)
    generalize orF [manF no fs, keyF key] = oo at *
    go_cut [7, 8, 10, 11] (fun _ _ _ _ wx => Below w8.heap.size w8 wx)
    case first =>
      by_cases ho : oo = 0
      · obtain ⟨hm, hkb⟩ := HOF0.out ho
        have ho1 : (oo == 0) = true := beq_iff_eq.2 ho
        by_cases hka : 0 ≤ keyAt key fs
        · have hpf : proofF no fs key = 0 := by rw [proofF, if_pos hm, if_pos hkb, if_pos hka]
          obtain ⟨j, k, hk, hcl, htop, rfl⟩ := HYES.out hpf
          have HPF := Lib.hid (show (proofF no fs key != 0) = false by simp [hpf])
          have HCL := Lib.hid hcl
          have HTOP := Lib.hid htop
          have HK := Lib.hid hk
          clear hm hkb hka hpf hcl htop hk ho
          go_wp2_with fail
          refine (proofOf_any no A _ c k fs key _ (HT.out.below B8) FA8.out HSH.out (by omega) HK.out).mono ?_
          rintro e w9 ⟨j', v9, hcl', htop', rfl, own9, b9⟩
          obtain rfl := HCL.out.one hcl' HTOP.out htop'
          obtain ⟨A9, c9, rfl, L9⟩ := own_slice own9 rfl
          have HL9 := Lib.hid L9
          have HL89 := Lib.hid (HL8.out.below b9)
          clear hcl' htop' own9 L9
          go_wp2_with fail
          refine (when_any false 8 _).mono ?_
          rintro e w10 ⟨rfl, rfl⟩
          rw [show whenF false 8 = 0 from rfl]
          have hw0 := HPF.out
          go_wp2_with fail
          refine (equalTwig_same A6 A9 c6 c9 _ _ _ _ (by omega) HL89.out HL9.out).mono ?_
          rintro e w10 ⟨rfl, q, rfl⟩
          go_wp2_with fail
          go_meet
          exact below_drewN b9 q
        · have hpf : proofF no fs key = 8 := by rw [proofF, if_pos hm, if_pos hkb, if_neg hka]
          obtain rfl := HNO.out (by rw [hpf]; decide)
          have HPF := Lib.hid (show (proofF no fs key != 8) = false by simp [hpf])
          clear hm hkb hpf ho
          go_wp2_with fail
          refine (proofOf_no no A _ c fs key _ FA8.out (by omega) (by omega)).mono ?_
          rintro e w9 ⟨rfl, b9⟩
          have HL89 := Lib.hid (HL8.out.below b9)
          go_wp2_with fail
          refine (when_any true 8 _).mono ?_
          rintro e w10 ⟨rfl, rfl⟩
          rw [show whenF true 8 = 8 from rfl]
          have hw0 := HPF.out
          go_wp2_with fail
          refine (equalTwig_same A6 none c6 0 _ 0 [] _ (by decide) HL89.out (Lst.nil _ _ _)).mono ?_
          rintro e w10 ⟨rfl, q, rfl⟩
          go_wp2_with fail
          go_meet
          exact below_drewN b9 q
      · have hpf := HOF1.out ho
        obtain rfl := HNO.out (by rw [hpf]; exact ho)
        have ho1 : (oo == 0) = false := beq_eq_false_iff_ne.2 ho
        have ho2 : (proofF no fs key != oo) = false := by simp [hpf]
        clear hpf
        go_wp2_with fail
        go_meet
        exact Below.refl _ _
    case rest =>
      have b9 := hcut
      clear hcut HOF0 HOF1 HNO HYES
      have B9 := bon B8 b9
      have FA9 := Lib.hid (FA8.out.below b9)
      have S9 := Lib.hid (S8.out.below b9)
      have O9 := Lib.hid (ownsRow_below O8.out b9)
      have j0 := bold b9 i0
      have j1 := bold b9 i1
      have l9 : w2.heap.size < wc.heap.size := World.block_lt_of_cell? wc _ j0
      clear b9 B8 FA8 S8 O8 i0 i1 l8 HL8
      go_wp2_with fail
      refine (Tryz.strings_Repeat ⟨#[97]⟩ 16 _ (by omega) (by decide)).mono ?_
      rintro e w10 ⟨rfl, b10⟩
      have hr97 : (ByteArray.mk (Lib.repeatL (ByteArray.mk #[97]).data.toList 16).toArray).size ≤ 16 := Nat.le_of_eq (rep_size 97)
      generalize ByteArray.mk (Lib.repeatL (ByteArray.mk #[97]).data.toList 16).toArray = rs at *
      have B10 := bon B9 b10
      have FA10 := Lib.hid (FA9.out.below b10)
      have S10 := Lib.hid (S9.out.below b10)
      have O10 := Lib.hid (ownsRow_below O9.out b10)
      have k0 := bold b10 j0
      have k1 := bold b10 j1
      have l10 : w2.heap.size < w10.heap.size := World.block_lt_of_cell? w10 _ k0
      have z10 := B10.size
      have zs10 := S10.out.lt
      clear b10 B9 FA9 S9 O9 j0 j1 l9
      go_wp2_with fail
      obtain ⟨W, hW⟩ : ∃ W, W = w10.alloc (.cells #[.string rs, .int .i64 3] 49) := ⟨_, rfl⟩
      have b11 : Below w10.heap.size w10 W := by rw [hW]; exact bfirst _ _
      have hWs : W.heap.size = w10.heap.size + 1 := by rw [hW]; simp
      have LC : Hid (Lst W (w.heap.size + 1) 2 (.slice (some ⟨w10.heap.size, 0, none⟩) 1 1) ([((rs, 3) : ChunkD)].flatMap chC)) := ⟨_, 1, 1, rfl, Nat.le_refl _, by unfold maxLen; omega, rfl, fun _ => ⟨w10.heap.size, 0, rfl, by omega, by omega, fun j u hu => by rw [Nat.zero_add, hW]; exact cell_new_list w10 _ _ j u (by simpa [chC] using hu)⟩⟩
      rw [← hW, ← hWs]
      have HWs := Lib.hid hWs
      clear hWs
      have B11 := bon B10 b11
      have FA11 := Lib.hid (FA10.out.below b11)
      have S11 := Lib.hid (S10.out.below b11)
      have O11 := Lib.hid (ownsRow_below O10.out b11)
      have m0 := bold b11 k0
      have m1 := bold b11 k1
      have l11 : w2.heap.size < W.heap.size := World.block_lt_of_cell? W _ m0
      clear hW b11 B10 FA10 S10 O10 k0 k1 l10
      go_loopg [99, 14] fs.length (fun g i _ wr => XRel fs W (w.heap.size + 1) g i wr)
      case atStart => exact ⟨0, (key, [(rs, 3)]), _, 1, by omega, rfl, heap_alloc_new _ _, LC.out, ⟨by show key.size ≤ 16; omega, by simp, by simp; omega⟩, by intro f hf; simp at hf; subst hf; exact ⟨by show key.size ≤ _; omega, by simp, by simp; omega⟩, bfirst _ _⟩
      case round =>
        obtain ⟨k, f, B, d, hk, rfl, hx, hL, hshf, hokf, hb⟩ := hrel
        have hlX := block_lt hx
        by_cases hg : gk = 0
        · obtain rfl : k = fs.length := by omega
          have SW0 : Hid (SwSt w w.heap.size (0 + 40 + 1) W f B d wr) := ⟨S11.out.below hb, hx, fun i hi _ => hb.block i hi, bon B11 hb⟩
          have HL := Lib.hid hL
          have O12 := Lib.hid (ownsRow_below O11.out hb)
          have HSF := Lib.hid hshf
          have HOF := Lib.hid hokf
          have hXb : w.heap.size < W.heap.size := by have := S11.out.lt; omega
          clear hk hg hx hL hshf hokf hb S11 O11 B11 FA11 m0 m1 LC
          go_wp2_with fail
          refine (cloneTwig_any _ _ ts _ (by omega) O12.out).mono ?_
          rintro e w13 ⟨v13, rfl, own13, b13⟩
          have SW1 := Lib.hid (SW0.out.below b13)
          have hbase : w.heap.size < wr.heap.size := by omega
          have O13 := Lib.hid own13
          have z13 := b13.size
          clear SW0 O12 own13 b13
          go_wp2_with fail
          refine (next_any _ _ 8 _ SW1.out.s (by omega) (by omega) (by omega)).mono ?_
          rintro e w14 ⟨r, ⟨hr0, hr1⟩, rfl, g14⟩
          have SW2 := Lib.hid (SW1.out.goes g14 hXb (Nat.le_refl _))
          have O14 := Lib.hid (ownsRow_gb O13.out g14.gb hbase)
          have z14 := g14.gb.size
          clear SW1 O13 g14
          obtain ⟨A14, c14, rfl, L14⟩ := own_slice O14.out rfl
          have HL14 := Lib.hid L14
          clear L14
          go_upto_block 2 with fail
          go_cut [15, 6] (fun s15 s6 wx => LawSt w W.heap.size f B d s15 s6 wx)
          case first =>
            by_cases h0 : r = 0
            · subst h0
              go_wp2_with fail
              refine (flip_any _ _ 2 _ SW2.out.s (by omega) (by omega) (by omega)).mono ?_
              rintro e w15 ⟨fl, rfl, g15⟩
              have SW3 := Lib.hid (SW2.out.goes g15 hXb (Nat.le_refl _))
              have O15 := Lib.hid (ownsRow_gb O14.out g15.gb hbase)
              have z15 := g15.gb.size
              clear SW2 O14 g15
              go_wp2_with fail
              refine (Tryz.strings_Repeat ⟨#[48]⟩ 16 _ (by omega) (by decide)).mono ?_
              rintro e w16 ⟨rfl, b16⟩
              have hr48 : (ByteArray.mk (Lib.repeatL (ByteArray.mk #[48]).data.toList 16).toArray).size ≤ 16 := Nat.le_of_eq (rep_size 48)
              generalize ByteArray.mk (Lib.repeatL (ByteArray.mk #[48]).data.toList 16).toArray = rz at *
              have SW4 := Lib.hid (SW3.out.below b16)
              have O16 := Lib.hid (ownsRow_below O15.out b16)
              have hl16 := SW4.out.s.lt
              have z16 := b16.size
              clear SW3 O15 b16
              go_wp2_with fail
              refine (some_any _ _ w16.heap.size [root, ⟨#[120]⟩, rz] 3 3 _ 9 (SW4.out.s.alloc _) (by omega) rfl (by omega) (by omega) (heap_alloc_new _ _) (by omega)).mono ?_
              rintro e w17 ⟨tx, htx, rfl, g17⟩
              have htx16 : tx.size ≤ 16 := by
                simp at htx
                rcases htx with rfl | rfl | rfl
                · omega
                · decide
                · omega
              have SW5 := Lib.hid ((SW4.out.below (bfirst _ _)).goes g17 hXb (Nat.le_refl _))
              have O17 := Lib.hid (ownsRow_gb (ownsRow_below O16.out (bfirst _ _)) g17.gb hbase)
              have z17 := g17.gb.size
              simp only [World.size_alloc] at z17
              have hz17 : wr.heap.size ≤ w17.heap.size := by omega
              clear htx SW4 O16 g17
              go_wp2_with (at_builtin; refine wpList_push (W := w17) (lo := wr.heap.size) rfl _ _ 36 rfl 46 ti _ 2 24 Tryz.underlying36 ti0 tz0 tz1 tz2 rfl (by decide) (by decide) _ _ _ rfl (Below.refl _ _) hz17 O17.out [.bool fl, .string tx] rfl rfl rfl rfl (by omega) ?_)
              intro v18 w18 own18 b18 _ _
              have SW6 := Lib.hid (SW5.out.belowAt b18 hlX hXb (Nat.le_refl _))
              have hts : ts.flatMap twC ++ [.bool fl, .string tx] = (ts ++ [((fl, tx) : TwigD)]).flatMap twC := by rw [List.flatMap_append]; rfl
              rw [hts] at own18
              obtain ⟨A18, c18, rfl, L18⟩ := own_slice own18 (by simp)
              have HL18 := Lib.hid L18
              clear L18 own18 hts SW5 O17
              go_wp2_with fail
              go_meet
              exact SW6.out.end_ HL.out HT.out (by omega) (HL18.out.mono (Nat.zero_le _)) (twOk_snoc hts5 HTS.out htx16)
            · have h0' : (r == 0) = false := beq_eq_false_iff_ne.2 h0
              by_cases h1 : r = 1
              · subst h1
                clear h0 h0'
                cases ts with
                | nil =>
                  go_wp2_with fail
                  go_meet
                  exact SW2.out.end_ HL.out HT.out (by omega) (HL14.out.mono (Nat.zero_le _)) ⟨by simp, by simp⟩
                | cons t tr =>
                  obtain ⟨tl, tx⟩ := t
                  have hpos : (0 : Int) < (((tl, tx) :: tr : List TwigD).length : Int) := by simp
                  have hpos' : 0 < ((tl, tx) :: tr : List TwigD).length := by simp
                  rcases own_nil_or O14.out with ⟨_, hz, _⟩ | ⟨g, c', hv⟩
                  · simp at hz
                  · simp only [Value.slice.injEq, true_and] at hv
                    obtain ⟨rfl, rfl⟩ := hv
                    have hcell : w14.cell? ⟨g, 0, none⟩ = some (.bool tl) := by
                      have := own_cells O14.out 0 (.bool tl) rfl
                      simpa [Addr.add] using this
                    have hfr : w14.frozen? ⟨g, 0, none⟩ = false := O14.out.frozenAt 0
                    have hst := (O14.out.stored 0 (.bool (!tl))).1
                    have hge : wr.heap.size ≤ g := (O14.out.lt g rfl).1
                    have hgl : g < w14.heap.size := World.block_lt_of_cell? w14 _ hcell
                    have HST := Lib.hid hst
                    have SW6 := Lib.hid (SW2.out.belowAt (((Below.refl wr.heap.size w14).setCell (p := ⟨g, 0, none⟩) hge (.bool (!tl)))) hlX hXb (Nat.le_refl _))
                    generalize hlen : ((tl, tx) :: tr : List TwigD).length = len2 at *
                    have HLEN := Lib.hid hlen
                    clear hst hlen HL14 O14 SW2
                    go_wp2_with fail
                    go_meet
                    have hl2 : Lst (w14.setCell ⟨g, 0, none⟩ (.bool (!tl))) wr.heap.size 2 (.slice (some ⟨g, 0, none⟩) len2 c14) (((!tl, tx) :: tr : List TwigD).flatMap twC) := Lst.of_own (by have := HST.out; simpa [twC] using this)
                    have e2 : len2 = ((!tl, tx) :: tr : List TwigD).length := HLEN.out.symm
                    rw [e2] at hl2 ⊢
                    exact SW6.out.end_ HL.out HT.out (by omega) (hl2.mono (Nat.zero_le _)) ⟨by rw [← e2]; omega, by
                      intro t ht
                      simp at ht
                      rcases ht with rfl | ht
                      · have := HTS.out (tl, tx) (by simp); show tx.size ≤ 1000; have h9 : tx.size ≤ 16 := this; omega
                      · have := HTS.out t (by simp [ht]); omega⟩
              · have h1' : (r == 1) = false := beq_eq_false_iff_ne.2 h1
                have HTO := Lib.hid (show TwOk ts from ⟨by omega, fun t ht => by have := HTS.out t ht; omega⟩)
                by_cases h2 : r = 2
                · subst h2
                  clear h0 h0' h1 h1'
                  go_wp2_with fail
                  refine (Tryz.strings_Repeat ⟨#[48]⟩ 16 _ (by omega) (by decide)).mono ?_
                  rintro e w16 ⟨rfl, b16⟩
                  have hr48 : (ByteArray.mk (Lib.repeatL (ByteArray.mk #[48]).data.toList 16).toArray).size ≤ 16 := Nat.le_of_eq (rep_size 48)
                  generalize ByteArray.mk (Lib.repeatL (ByteArray.mk #[48]).data.toList 16).toArray = rz at *
                  have SW4 := Lib.hid (SW2.out.below b16)
                  have HL16 := Lib.hid ((HL14.out.below b16).below (bfirst w16 (.cells #[.string ⟨#[]⟩, .string rz] 9)))
                  have hl16 := SW4.out.s.lt
                  clear SW2 b16 HL14 O14
                  go_wp2_with fail
                  refine (some_any _ _ w16.heap.size [⟨#[]⟩, rz] 2 2 _ 9 (SW4.out.s.alloc _) (by omega) rfl (by omega) (by omega) (heap_alloc_new _ _) (by omega)).mono ?_
                  rintro e w17 ⟨tx, htx, rfl, g17⟩
                  have htx16 : tx.size ≤ 16 := by
                    simp at htx
                    rcases htx with rfl | rfl
                    · decide
                    · omega
                  have SW5 := Lib.hid ((SW4.out.below (bfirst _ _)).goes g17 hXb (Nat.le_refl _))
                  have HL17 := Lib.hid (HL16.out.grown g17.gb hbase)
                  clear htx SW4 HL16 g17
                  go_wp2_with fail
                  go_meet
                  exact SW5.out.end_ HL.out HT.out (by omega) (HL17.out.mono (Nat.zero_le _)) HTO.out
                · have h2' : (r == 2) = false := beq_eq_false_iff_ne.2 h2
                  go_wp2_with fail
                  go_meet
                  exact SW2.out.end_ HL.out HT.out (by omega) (HL14.out.mono (Nat.zero_le _)) HTO.out
          case rest =>
            obtain ⟨rt, us, A18, c18, rfl, hrt, rfl, hl18, htw, x0, x1, hlx, htb, bx⟩ := hcut
            have HLX := Lib.hid hlx
            have HTW := Lib.hid htw
            have HL18 := Lib.hid hl18
            have HTB := Lib.hid htb
            have lx : W.heap.size < wc.heap.size := World.block_lt_of_cell? wc _ x0
            clear hlx htw hl18 htb SW2 O14 HL14 HL
            go_wp2_with fail
            refine (verify_any rt f us B A18 _ _ d c18 _ HTB.out HLX.out HL18.out hrt HOF.out HSF.out HTW.out).mono ?_
            rintro e w19 ⟨rfl, b19⟩
            have B19 := bon bx b19
            have HLX9 := Lib.hid (HLX.out.below b19)
            have HL19 := Lib.hid (HL18.out.below b19)
            have HTB9 := Lib.hid (HTB.out.below b19)
            have y0 := bold b19 x0
            have y1 := bold b19 x1
            have ly : W.heap.size < w19.heap.size := World.block_lt_of_cell? w19 _ y0
            clear b19 bx HLX HL18 HTB x0 x1 lx
            go_wp2_with fail
            refine (verifyFault_any rt f us B A18 _ _ d c18 _ HLX9.out HL19.out hrt HOF.out HTW.out).mono ?_
            rintro e w20 ⟨rfl, b20⟩
            have B20 := bon B19 b20
            have HLX20 := Lib.hid (HLX9.out.below b20)
            have HL20 := Lib.hid (HL19.out.below b20)
            have HTB20 := Lib.hid (HTB9.out.below b20)
            have v0 := bold b20 y0
            have v1 := bold b20 y1
            have lv : W.heap.size < w20.heap.size := World.block_lt_of_cell? w20 _ v0
            clear b20 B19 HLX9 HL19 HTB9 y0 y1 ly
            by_cases hv : verF rt f us = 0
            · rw [hv]
              have hvb : ((0 : Int) == 0 && verB rt f us) = verB rt f us := by simp
              rw [hvb]
              clear hvb hv
              go_wp2_with fail
              refine (verifyOf_any rt f us B A18 _ _ d c18 _ HTB20.out HLX20.out HL20.out HSF.out HTW.out).mono ?_
              rintro e w21 ⟨rfl, b21⟩
              have B21 := bon B20 b21
              clear b21 B20
              generalize verB rt f us = vb at *
              go_wp2_with fail
              refine (synced_any _).mono ?_
              rintro e w22 ⟨rfl, b22⟩
              go_wp2_with fail
              go_ret
              exact ⟨rfl, bon B21 b22⟩
            · have hv1 : (verF rt f us == 0) = false := beq_eq_false_iff_ne.2 hv
              have hv2 : (verF rt f us != 0) = true := bne_iff_ne.2 hv
              rw [hv1, Bool.false_and]
              clear hv
              go_wp2_with fail
              refine (synced_any _).mono ?_
              rintro e w22 ⟨rfl, b22⟩
              go_wp2_with fail
              go_ret
              exact ⟨rfl, bon B20 b22⟩
        · have hlt : k < fs.length := by omega
          obtain ⟨g, o, C, m, q, rfl, hgl, cK, cC, hm, hLk⟩ := FA11.out.at_ hlt
          obtain rfl := hm
          have n0 := bold hb cK
          have n1 := bold hb cC
          have HK := Lib.hid hk
          have hgk : gk ≠ 0 := hg
          have HX := Lib.hid hx
          have HL := Lib.hid hL
          have HSF := Lib.hid hshf
          have HOF := Lib.hid hokf
          have HLK := Lib.hid hLk
          have HSK := Lib.hid (HSH.out _ (List.getElem_mem hlt))
          have HOK2 : Hid (FilesOk [fs[k]]) := fun f' hf' => by simp at hf'; subst hf'; exact HOK.out _ (List.getElem_mem hlt)
          clear hk hg hL hshf hokf hLk cK cC hx
          generalize fs[k] = fk at *
          obtain ⟨fkey, fcs⟩ := fk
          have hbb := bbox hb (.cells #[.string fkey, .slice C fcs.length q] 52)
          have hX2 : (wr.alloc (.cells #[.string fkey, .slice C fcs.length q] 52)).heap[W.heap.size]? = some (.cells #[.string f.1, .slice B f.2.length d] 52 (0, 0)) := (Below.heap_alloc wr _ _ hlX).trans HX.out
          rcases Bool.eq_false_or_eq_true (fkey.toList == key.toList) with he | he
          · have q0 := (stream_cells HX.out).1
            have q1 := (stream_cells HX.out).2.1
            have q2 := (stream_cells HX.out).2.2.1
            have q3 := (stream_cells HX.out).2.2.2
            have HX3 := Lib.hid ((Below.heap_alloc ((wr.setCell ⟨W.heap.size, 0, none⟩ (.string fkey)).setCell ⟨W.heap.size, 1, none⟩ (.slice C fcs.length q)) (.cells #[.string fkey, .slice C fcs.length q] 52) W.heap.size (by simpa using hlX)).trans (two_set (u' := .string fkey) (v' := .slice C fcs.length q) HX.out))
            have HB3 := Lib.hid (((hb.setCell (p := ⟨W.heap.size, 0, none⟩) (Nat.le_refl _) (.string fkey)).setCell (p := ⟨W.heap.size, 1, none⟩) (Nat.le_refl _) (.slice C fcs.length q)).alloc (by simpa using Nat.le_of_lt hlX) (.cells #[.string fkey, .slice C fcs.length q] 52))
            have HEQ := Lib.hid he
            clear hX2
            go_wp2_with fail
            go_roundg (gk - 1)
            case measure => omega
            case rel => exact ⟨k + 1, (fkey, fcs), C, q, by have := HK.out; omega, by go_num, HX3.out, HLK.out, HSK.out, HOK2.out, HB3.out⟩
          · have HX3 := Lib.hid hX2
            clear hX2
            go_wp2_with fail
            go_roundg (gk - 1)
            case measure => omega
            case rel => exact ⟨k + 1, f, B, d, by have := HK.out; omega, by go_num, HX3.out, HL.out, HSF.out, HOF.out, hbb⟩
end Go.Proofs.YtegalkmfoffpfaaGreatDoor
