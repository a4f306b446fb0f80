/- Verify: a file leads to a root by a proof. -/
import Derived.Test.YtegalkmfoffpfaaGreatDoorTwigs
import Derived.Test.YtegalkmfoffpfaaGreatDoorFuncs2
namespace Go.Proofs.YtegalkmfoffpfaaGreatDoor
open Go.RowKit
attribute [local go_sem ↓] Go.wp_at_zero Go.wp_at_succ

/-- One file in a new slice. -/
theorem filesAt_one {w : World} {lo d : Nat} {B : Option Addr} {f : FileD} (hL : Lst w lo 2 (.slice B f.2.length d) (f.2.flatMap chC)) :
    FilesAt (w.alloc (.cells #[.string f.1, .slice B f.2.length d] 52)) 0 (.slice (some ⟨w.heap.size, 0, none⟩) 1 1) [f] := by
  refine ⟨[(f.1, .slice B f.2.length d)], ⟨_, 1, 1, rfl, Nat.le_refl _, by unfold maxLen; omega, rfl, fun _ => ⟨w.heap.size, 0, rfl, Nat.zero_le _, by simp, fun j u hu => ?_⟩⟩, rfl, fun i hi => ?_⟩
  · rw [Nat.zero_add]; exact cell_new_list w _ _ j u (by simpa [fiC] using hu)
  · obtain rfl : i = 0 := by simpa using hi
    exact ⟨_, rfl, (hL.below (bfirst w _)).mono (Nat.zero_le _)⟩
theorem Lst.twig {w : World} {lo n c : Nat} {A : Option Addr} {ts : List TwigD} (h : Lst w lo 2 (.slice A n c) (ts.flatMap twC)) {j : Nat} (hj : j < ts.length) (hn : n = ts.length) :
    ∃ g o, A = some ⟨g, o, none⟩ ∧ g < w.heap.size ∧ w.cell? ⟨g, o + j * 2, none⟩ = some (.bool ts[j].1) ∧ w.cell? ⟨g, o + j * 2 + 1, none⟩ = some (.string ts[j].2) := by
  obtain ⟨g, o, rfl, _, hg, hc⟩ := h.open_ (by omega)
  have a0 := hc (j * 2 + 0) (.bool ts[j].1) (by rw [flat2_at _ _ (fun _ => rfl) j 0 hj (by omega)]; rfl)
  have a1 := hc (j * 2 + 1) (.string ts[j].2) (by rw [flat2_at _ _ (fun _ => rfl) j 1 hj (by omega)]; rfl)
  exact ⟨g, o, rfl, hg, by simpa using a0, by rw [Nat.add_assoc]; exact a1⟩
def twD (ts : List TwigD) (i : Nat) : TwigD := ts.getD i (false, ⟨#[]⟩)
theorem twD_eq (ts : List TwigD) {k : Nat} (h : k < ts.length) : twD ts k = ts[k] := getD_at ts _ h
theorem Lst.twigs2 {w : World} {lo n c : Nat} {A : Option Addr} {ts : List TwigD} (h : Lst w lo 2 (.slice A n c) (ts.flatMap twC)) (hn : n = ts.length) : At2 w A n (fun i => .bool (twD ts i).1) (fun i => .string (twD ts i).2) := fun i hi => by
  obtain ⟨g, o, e, hg, c0, c1⟩ := h.twig (j := i) (by omega) hn
  rw [← twD_eq ts (by omega)] at c0 c1
  exact ⟨g, o, e, hg, c0, c1⟩
/-- Twigs of a size that nothing overflows. -/
def TwOk (ts : List TwigD) : Prop := ts.length ≤ 20 ∧ ∀ t ∈ ts, t.2.size ≤ 1000
def TfRel (ts : List TwigD) (w : World) (g : Nat) (i : Value) (wr : World) : Prop :=
  ∃ k : Nat, k + g = ts.length ∧ i = .int .i64 k ∧ firstTo (twF ts) k = 0 ∧ Below w.heap.size w wr
def TsRel (f : FileD) (ts : List TwigD) (w : World) (g : Nat) (i s : Value) (wr : World) : Prop :=
  ∃ k : Nat, k + g = ts.length ∧ i = .int .i64 k ∧ s = .string (foldS (leafS f) (ts.take k)) ∧ Below w.heap.size w wr
theorem twF_at (ts : List TwigD) {k : Nat} (h : k < ts.length) : twF ts k = if sumB ts[k].2 then 0 else 3 := by
  show (if sumB (twD ts k).2 then (0 : Int) else 3) = _
  rw [twD_eq ts h]

/-! ### The reference -/
set_option maxRecDepth 100000 in
set_option maxHeartbeats 1000000 in
theorem verifyNot_any (l : Bool) (s : ByteArray) (w : World) (hs : s.size ≤ 1000) :
    Calls Tryz.prog 97 #[.agg #[.bool l, .string s]] w fun e w' => e = .returned (.bool (!sumB s)) ∧ Below w.heap.size w w' := by
  go_enter Tryz.func97, Tryz.ntmps97
  go_wp2_with fail
  refine (SumRight_any s (by omega) _).mono ?_
  rintro e w1 ⟨rfl, hb1⟩
  go_wp2_with fail
  go_ret
  exact ⟨rfl, bon (bfirst _ _) hb1⟩
theorem anyI_first (ts : List TwigD) : (if anyI (fun i => !sumB (twD ts i).2) ts.length then (3 : Int) else 0) = firstTo (twF ts) ts.length := by
  have key : ∀ n, (∀ j, j < n → (!sumB (twD ts j).2) = false) → firstTo (twF ts) n = 0 := by
    intro n
    induction n with
    | zero => intro _; rfl
    | succ n ih =>
      intro h
      refine firstTo_succ (ih fun j hj => h j (by omega)) ?_
      have := h n (by omega)
      show (if sumB (twD ts n).2 then (0 : Int) else 3) = 0
      rw [show sumB (twD ts n).2 = true by simpa using this]; rfl
  by_cases h : ∃ k, k < ts.length ∧ (!sumB (twD ts k).2) = true ∧ ∀ j, j < k → (!sumB (twD ts j).2) = false
  · obtain ⟨k, hk, hp, hj⟩ := h
    have e := idxI_hit (p := fun i => !sumB (twD ts i).2) hk hp hj
    have h3 : twF ts k = 3 := by
      show (if sumB (twD ts k).2 then (0 : Int) else 3) = 3
      rw [show sumB (twD ts k).2 = false by simpa using hp]; rfl
    rw [anyI, e, decide_eq_true (by omega), if_pos rfl, firstTo_at hk (key k hj) (by omega), h3]
  · have h0 : ∀ n, n ≤ ts.length → ∀ j, j < n → (!sumB (twD ts j).2) = false := by
      intro n
      induction n with
      | zero => intro _ j hj; omega
      | succ n ih =>
        intro hn j hj
        rcases Nat.lt_or_ge j n with h1 | h1
        · exact ih (by omega) j h1
        · rw [show j = n by omega]
          rcases Bool.eq_false_or_eq_true (!sumB (twD ts n).2) with h2 | h2
          · exact absurd ⟨n, by omega, h2, ih (by omega)⟩ h
          · exact h2
    have h1 := h0 ts.length (Nat.le_refl _)
    rw [anyI, idxI_miss h1, key _ h1]; rfl
set_option maxRecDepth 100000 in
set_option maxHeartbeats 1000000 in
theorem verifyFault_any (root : ByteArray) (f : FileD) (ts : List TwigD) (B A : Option Addr) (lo lo' d c : Nat) (w : World) (hL : Lst w lo 2 (.slice B f.2.length d) (f.2.flatMap chC)) (hT : Lst w lo' 2 (.slice A ts.length c) (ts.flatMap twC))
    (hr : root.size ≤ 1000) (hok : FilesOk [f]) (hts : TwOk ts) :
    Calls Tryz.prog 23 #[.string root, .agg #[.string f.1, .slice B f.2.length d], .slice A ts.length c] w fun e w' => e = .returned (.int .i64 (verF root f ts)) ∧ Below w.heap.size w w' := by
  have HL := Lib.hid hL
  have HT := Lib.hid hT
  have HO := Lib.hid hok
  have HS := Lib.hid hts
  have h20 := hts.1
  clear hL hT hok hts
  go_enter Tryz.func23, Tryz.ntmps23
  go_wp2_with fail
  refine (SumRight_any root (by omega) _).mono ?_
  rintro e w1 ⟨rfl, hb1⟩
  have hbA := bon (bfirst w _) hb1
  have c0 := bboxed hb1 0 _ rfl
  have c1 := bboxed hb1 1 _ rfl
  have hl := blt hb1
  clear hb1
  rcases Bool.eq_false_or_eq_true (sumB root) with h | h
  · have HV := Lib.hid (show verF root f ts = (if filesF [f] = 0 then (if 20 < ts.length then 2 else firstTo (twF ts) ts.length) else filesF [f]) by rw [verF, h]; rfl)
    rw [h]
    clear h
    go_wp2_with fail
    have hb2 := bbox hbA (.cells #[.string f.1, .slice B f.2.length d] 52)
    refine (filesFaultOf_any _ 0 1 [f] _ (filesAt_one (HL.out.below hbA)) HO.out (by simp)).mono ?_
    rintro e w2 ⟨rfl, hb3⟩
    have hb4 := bon hb2 hb3
    clear hb3 hb2 hbA
    by_cases hz : filesF [f] = 0
    · rw [hz]
      have HV2 := Lib.hid (show verF root f ts = (if anyI (fun i => !sumB (twD ts i).2) ts.length then (3 : Int) else 0) by rw [HV.out, if_pos hz, if_neg (by omega), anyI_first])
      clear HV hz
      go_wp2_with fail
      refine (containsFuncTwig A ts.length c _ _ (fun i => !sumB (twD ts i).2) 97 #[] (enters_of Tryz.func97 (by kernel_rfl) rfl) _ ((HT.out.below hb4).twigs2 rfl) (fun W i hi hb => verifyNot_any _ _ W (by have := HS.out.2 _ (List.getElem_mem hi); rw [twD_eq ts hi]; exact this)) (by omega)).mono ?_
      rintro e w3 ⟨rfl, hb5⟩
      have hb6 := bon hb4 hb5
      rcases Bool.eq_false_or_eq_true (anyI (fun i => !sumB (twD ts i).2) ts.length) with h | h
      · rw [h] at HV2 ⊢
        go_wp2_with fail
        go_ret
        exact ⟨ret_int HV2.out.symm, hb6⟩
      · rw [h] at HV2 ⊢
        go_wp2_with fail
        go_ret
        exact ⟨ret_int HV2.out.symm, hb6⟩
    · have hz' : (filesF [f] != 0) = true := bne_iff_ne.2 hz
      have HV2 := Lib.hid (show verF root f ts = filesF [f] by rw [HV.out, if_neg hz])
      clear HV hz
      go_wp2_with fail
      go_ret
      exact ⟨ret_int HV2.out.symm, hb4⟩
  · have HV := Lib.hid (show verF root f ts = 3 by rw [verF, h]; rfl)
    rw [h]
    go_wp2_with fail
    go_ret
    exact ⟨ret_int HV.out.symm, hbA⟩
/-! ### The fold -/
theorem foldS_16 (f : FileD) (ts : List TwigD) : (foldS (leafS f) ts).size = 16 := foldS_size _ _ (sumS_size _)
set_option maxRecDepth 100000 in
set_option maxHeartbeats 1000000 in
theorem verifyOf_any (root : ByteArray) (f : FileD) (ts : List TwigD) (B A : Option Addr) (lo lo' d c : Nat) (w : World) (ht : Tab w) (hL : Lst w lo 2 (.slice B f.2.length d) (f.2.flatMap chC)) (hT : Lst w lo' 2 (.slice A ts.length c) (ts.flatMap twC))
    (hsh : Short f) (hts : TwOk ts) :
    Calls Tryz.prog 25 #[.string root, .agg #[.string f.1, .slice B f.2.length d], .slice A ts.length c] w fun e w' => e = .returned (.bool (verB root f ts)) ∧ Below w.heap.size w w' := by
  have HL := Lib.hid hL
  have HT := Lib.hid hT
  have HS := Lib.hid hts
  have HTB := Lib.hid ht
  have h20 := hts.1
  have HSH := Lib.hid hsh
  clear hL hT hts ht hsh
  go_enter Tryz.func25, Tryz.ntmps25
  go_wp2_with fail
  have hb0 := bfirst w (.cells #[.string f.1, .slice B f.2.length d] 52)
  refine (fileSum_any f B lo _ d _ (HTB.out.below hb0) (HL.out.below hb0) rfl HSH.out).mono ?_
  rintro e w1 ⟨rfl, hb1⟩
  have hb2 := bon hb0 hb1
  clear hb1 hb0
  go_wp2_with fail
  go_loopg [14, 7, 9] ts.length (fun g i s _ wr => TsRel f ts w g i s wr)
  case atStart => exact ⟨0, by omega, rfl, by simp [foldS], hb2⟩
  case round =>
    obtain ⟨k, hk, rfl, rfl, hb⟩ := hrel
    have h16 := foldS_16 f (ts.take k)
    by_cases hg : gk = 0
    · obtain rfl : k = ts.length := by omega
      rw [List.take_length] at h16 ⊢
      clear hk hg
      go_wp2_with fail
      go_ret
      exact ⟨rfl, hb⟩
    · have hlt : k < ts.length := by omega
      obtain ⟨g, o, rfl, hgl, c0, c1⟩ := (HT.out.below hb).twig hlt rfl
      have HF := Lib.hid (foldS_snoc (leafS f) ts hlt)
      have hs9 := HS.out.2 _ (List.getElem_mem hlt)
      have HK := Lib.hid hk
      have hgk : gk ≠ 0 := hg
      have H16 : Hid ((foldS (leafS f) (ts.take k)).size = 16) := h16
      have hs16 : (foldS (leafS f) (ts.take k)).size ≤ 16 := by omega
      clear hk hg h16
      generalize foldS (leafS f) (ts.take k) = s at *
      generalize ts[k] = t at *
      obtain ⟨tl, tx⟩ := t
      have hb3 := bbox hb (.cells #[.bool tl, .string tx] 46)
      have htb := Lib.hid (HTB.out.below hb3)
      have hs9' : tx.size ≤ 1000 := hs9
      clear hs9
      cases tl
      · have hz : (s ++ tx).size ≤ 1016 := by rw [ByteArray.size_append]; omega
        have HE := Lib.hid (show foldS (leafS f) (ts.take (k + 1)) = sumS (s ++ tx) by rw [HF.out]; rfl)
        go_wp2_with fail
        refine (rsum_any (s ++ tx) (by omega) _ htb.out).mono ?_
        rintro e w4 ⟨rfl, hb4⟩
        go_wp2_with fail
        go_roundg (gk - 1)
        case measure => omega
        case rel => exact ⟨k + 1, by have := HK.out; omega, by go_num, by rw [HE.out], bon hb3 hb4⟩
      · have hz : (tx ++ s).size ≤ 1016 := by rw [ByteArray.size_append]; omega
        have HE := Lib.hid (show foldS (leafS f) (ts.take (k + 1)) = sumS (tx ++ s) by rw [HF.out]; rfl)
        go_wp2_with fail
        refine (rsum_any (tx ++ s) (by omega) _ htb.out).mono ?_
        rintro e w4 ⟨rfl, hb4⟩
        go_wp2_with fail
        go_roundg (gk - 1)
        case measure => omega
        case rel => exact ⟨k + 1, by have := HK.out; omega, by go_num, by rw [HE.out], bon hb3 hb4⟩
/-! ### sync.Verify -/
set_option maxRecDepth 100000 in
set_option maxHeartbeats 2000000 in
theorem verify_any (root : ByteArray) (f : FileD) (ts : List TwigD) (B A : Option Addr) (lo lo' d c : Nat) (w : World) (ht : Tab w) (hL : Lst w lo 2 (.slice B f.2.length d) (f.2.flatMap chC)) (hT : Lst w lo' 2 (.slice A ts.length c) (ts.flatMap twC))
    (hr : root.size ≤ 1000) (hok : FilesOk [f]) (hsh : Short f) (hts : TwOk ts) :
    Calls Tryz.prog 22 #[.string root, .agg #[.string f.1, .slice B f.2.length d], .slice A ts.length c] w fun e w' => e = .returned (.tuple #[.bool ((verF root f ts == 0) && verB root f ts), .int .i64 (verF root f ts)]) ∧ Below w.heap.size w w' := by
  have HL := Lib.hid hL
  have HT := Lib.hid hT
  have HO := Lib.hid hok
  have HS := Lib.hid hts
  have HTB := Lib.hid ht
  have h20 := hts.1
  have HSH := Lib.hid hsh
  clear hL hT hok hts ht hsh
  go_enter Tryz.func22, Tryz.ntmps22
  go_wp2_with fail
  refine (isSum_any root (by omega) _).mono ?_
  rintro e w1 ⟨rfl, hb1⟩
  have hbA := bon (bfirst w _) hb1
  have c0 := bboxed hb1 0 _ rfl
  have c1 := bboxed hb1 1 _ rfl
  have hl := blt hb1
  clear hb1
  rcases Bool.eq_false_or_eq_true (sumB root) with h | h
  rotate_left
  · have HV := Lib.hid (show verF root f ts = 3 by rw [verF, h]; rfl)
    rw [h]
    go_wp2_with fail
    go_ret2
    exact ⟨by rw [HV.out]; rfl, hbA⟩
  have HV := Lib.hid (show verF root f ts = (if filesF [f] = 0 then (if 20 < ts.length then 2 else firstTo (twF ts) ts.length) else filesF [f]) by rw [verF, h]; rfl)
  rw [h]
  clear h
  go_wp2_with fail
  have hb2 := bbox hbA (.cells #[.string f.1, .slice B f.2.length d] 52)
  refine (filesFault_any _ 0 1 [f] _ (filesAt_one (HL.out.below hbA)) HO.out (by simp)).mono ?_
  rintro e w2 ⟨rfl, hb3⟩
  have hb4 := bon hb2 hb3
  have d0 := bold hb3 (show (w1.alloc (.cells #[.string f.1, .slice B f.2.length d] 52)).cell? ⟨w.heap.size, 0, none⟩ = some (.string f.1) by rw [World.cell?_alloc_lt _ _ _ (by exact hl)]; exact c0)
  have d1 := bold hb3 (show (w1.alloc (.cells #[.string f.1, .slice B f.2.length d] 52)).cell? ⟨w.heap.size, 1, none⟩ = some (.slice B f.2.length d) by rw [World.cell?_alloc_lt _ _ _ (by exact hl)]; exact c1)
  have hl2 : w.heap.size < w2.heap.size := World.block_lt_of_cell? w2 _ d0
  clear hb3 hb2 hbA c0 c1 hl
  by_cases hz : filesF [f] = 0
  rotate_left
  · have hz' : (filesF [f] != 0) = true := bne_iff_ne.2 hz
    have HV2 := Lib.hid (show verF root f ts = filesF [f] by rw [HV.out, if_neg hz])
    have HZ := Lib.hid (show (filesF [f] == 0) = false from beq_eq_false_iff_ne.2 hz)
    clear HV hz
    go_wp2_with fail
    go_ret2
    exact ⟨by rw [HV2.out, HZ.out]; rfl, hb4⟩
  have HV2 := Lib.hid (show verF root f ts = firstTo (twF ts) ts.length by rw [HV.out, if_pos hz, if_neg (by omega)])
  rw [hz]
  clear HV hz
  go_wp2_with fail
  go_loopg [28, 10] ts.length (fun g i _ wr => TfRel ts w2 g i wr)
  case atStart => exact ⟨0, by omega, rfl, rfl, Below.refl _ _⟩
  case round =>
    obtain ⟨k, hk, rfl, h0, hb⟩ := hrel
    have hbw := bon hb4 hb
    by_cases hg : gk = 0
    · obtain rfl : k = ts.length := by omega
      have HV3 := Lib.hid (show verF root f ts = 0 by rw [HV2.out]; exact h0)
      have e0 := bold hb d0
      have e1 := bold hb d1
      have hl3 : w.heap.size < wr.heap.size := World.block_lt_of_cell? wr _ e0
      clear hk h0 hg d0 d1 HV2 hl2
      go_wp2_with fail
      refine (leaf_any f B lo _ d _ (HTB.out.below hbw) (HL.out.below hbw) rfl HSH.out).mono ?_
      rintro e w5 ⟨rfl, hb5⟩
      have hb6 := bon hbw hb5
      clear hb5 hbw hb hb4 e0 e1 hl3
      obtain ⟨gq, rfl⟩ : ∃ gq, gq = gk := ⟨_, rfl⟩
      obtain ⟨wr0, rfl⟩ : ∃ x : World, x = wr := ⟨_, rfl⟩
      go_wp2_with fail
      go_loopg [41, 11, 13] ts.length (fun g i s _ wr => TsRel f ts w g i s wr)
      case atStart => exact ⟨0, by omega, rfl, by simp [foldS], hb6⟩
      case round =>
        obtain ⟨k, hk, rfl, rfl, hb⟩ := hrel
        have h16 := foldS_16 f (ts.take k)
        by_cases hg : gk = 0
        · obtain rfl : k = ts.length := by omega
          rw [List.take_length] at h16 ⊢
          clear hk hg
          go_wp2_with fail
          go_ret2
          exact ⟨by rw [HV3.out]; rfl, hb⟩
        · have hlt : k < ts.length := by omega
          obtain ⟨g, o, rfl, hgl, c0, c1⟩ := (HT.out.below hb).twig hlt rfl
          have HF := Lib.hid (foldS_snoc (leafS f) ts hlt)
          have hs9 := HS.out.2 _ (List.getElem_mem hlt)
          have HK := Lib.hid hk
          have hgk : gk ≠ 0 := hg
          have hs16 : (foldS (leafS f) (ts.take k)).size ≤ 16 := by omega
          clear hk hg h16
          generalize foldS (leafS f) (ts.take k) = s at *
          generalize ts[k] = t at *
          obtain ⟨tl, tx⟩ := t
          have hb3 := bbox hb (.cells #[.bool tl, .string tx] 46)
          have htb := Lib.hid (HTB.out.below hb3)
          have hs9' : tx.size ≤ 1000 := hs9
          clear hs9
          cases tl
          · have hz : (s ++ tx).size ≤ 1016 := by rw [ByteArray.size_append]; omega
            have HE := Lib.hid (show foldS (leafS f) (ts.take (k + 1)) = sumS (s ++ tx) by rw [HF.out]; rfl)
            go_wp2_with fail
            refine (sumOf_any (s ++ tx) (by omega) _ htb.out).mono ?_
            rintro e w4 ⟨rfl, hb4⟩
            go_wp2_with fail
            go_roundg (gk - 1)
            case measure => omega
            case rel => exact ⟨k + 1, by have := HK.out; omega, by go_num, by rw [HE.out], bon hb3 hb4⟩
          · have hz : (tx ++ s).size ≤ 1016 := by rw [ByteArray.size_append]; omega
            have HE := Lib.hid (show foldS (leafS f) (ts.take (k + 1)) = sumS (tx ++ s) by rw [HF.out]; rfl)
            go_wp2_with fail
            refine (sumOf_any (tx ++ s) (by omega) _ htb.out).mono ?_
            rintro e w4 ⟨rfl, hb4⟩
            go_wp2_with fail
            go_roundg (gk - 1)
            case measure => omega
            case rel => exact ⟨k + 1, by have := HK.out; omega, by go_num, by rw [HE.out], bon hb3 hb4⟩
    · have hlt : k < ts.length := by omega
      obtain ⟨g, o, rfl, hgl, c0, c1⟩ := (HT.out.below hbw).twig hlt rfl
      have HF := Lib.hid (twF_at ts hlt)
      have hs9 := HS.out.2 _ (List.getElem_mem hlt)
      have HK := Lib.hid hk
      have H0 := Lib.hid h0
      have hgk : gk ≠ 0 := hg
      clear hk hg h0 d0 d1 hl2
      generalize ts[k] = t at *
      obtain ⟨tl, tx⟩ := t
      have hs9' : tx.size ≤ 1000 := hs9
      have HF' : Hid (twF ts k = if sumB tx then 0 else 3) := HF.out
      clear hs9 HF
      go_wp2_with fail
      refine (isSum_any tx (by omega) _).mono ?_
      rintro e w5 ⟨rfl, hb5⟩
      rcases Bool.eq_false_or_eq_true (sumB tx) with h | h
      · have HN := Lib.hid (firstTo_succ H0.out (by rw [HF'.out, h]; rfl))
        rw [h]
        clear h
        go_wp2_with fail
        go_roundg (gk - 1)
        case measure => omega
        case rel => exact ⟨k + 1, by have := HK.out; omega, by go_num, HN.out, bon (bbox hb _) hb5⟩
      · have HN := Lib.hid (show verF root f ts = 3 by rw [HV2.out, firstTo_at hlt H0.out (by rw [HF'.out, h]; decide), HF'.out, h]; rfl)
        rw [h]
        clear h
        go_wp2_with fail
        go_ret2
        exact ⟨by rw [HN.out]; rfl, bon (bbox hbw _) hb5⟩
end Go.Proofs.YtegalkmfoffpfaaGreatDoor
