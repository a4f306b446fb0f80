/- The faults of a part, both ways. -/
import Derived.Test.YtoleejecmefogaaDoorM6
import Derived.Test.YtoleejecmefogaaDoorShelf
import Derived.Deep.DeepCutAuto
import Derived.Deep.LoopGhost
namespace Go.Proofs.YtoleejecmefogaaDoor
open Go
set_option maxRecDepth 100000
set_option maxHeartbeats 8000000
def outB (x lo hi : Int) : Bool := decide (x < lo) || decide (hi < x)
def firstNZ : List Int → Int
  | [] => 0
  | x :: xs => if x = 0 then firstNZ xs else x
def partF : LT → Int
  | .mk kind item long many kids shares =>
    if outB kind 1 5 then 4 else if formB kind item long many kids.length shares.length then 3 else if kind == 1 && !keyB item then 5 else if kind == 1 && outB long 1 3600000 then 1
      else if kind == 5 && outB many 1 100 then 1 else if shares.any (fun n => outB n 1 1000) then 1 else firstNZ (kids.map partF)
theorem partF_eq (kind : Int) (item : ByteArray) (long many : Int) (kids : List LT) (shares : List Int) : partF (.mk kind item long many kids shares) =
    if outB kind 1 5 then 4 else if formB kind item long many kids.length shares.length then 3 else if kind == 1 && !keyB item then 5 else if kind == 1 && outB long 1 3600000 then 1
      else if kind == 5 && outB many 1 100 then 1 else if shares.any (fun n => outB n 1 1000) then 1 else firstNZ (kids.map partF) := by rw [partF]
theorem firstNZ_app (l : List Int) (x : Int) : firstNZ (l ++ [x]) = if firstNZ l = 0 then x else firstNZ l := by
  induction l with
  | nil => simp only [List.nil_append, firstNZ]; split <;> simp_all
  | cons y l ih =>
    simp only [List.cons_append, firstNZ]
    split
    · exact ih
    · simp_all
theorem firstNZ_pre : ∀ (l : List Int) (j : Nat) (x : Int), l[j]? = some x → x ≠ 0 → firstNZ (l.take j) = 0 → firstNZ l = x
  | [], _, _, h, _, _ => by simp at h
  | y :: l, 0, x, h, hx, _ => by simp at h; subst h; simp [firstNZ, hx]
  | y :: l, j + 1, x, h, hx, h0 => by
    simp only [List.take_succ_cons, firstNZ] at h0 ⊢
    split at h0
    · rename_i hy; rw [if_pos hy]; exact firstNZ_pre l j x (by simpa using h) hx h0
    · rename_i hy; exact absurd h0 hy
/-- loop.partFault. -/
theorem g_part24 : ∀ (d : Nat) (t : LT) (h : Hp), LC d t → ACalls Tryd.prog 24 [.agg (encL t)] h (fun r h' => r = .v (.int .i64 (partF t)) ∧ h' = h)
  | 0, _, _, hb => hb.elim
  | d + 1, .mk kind item long many kids shares, h0, hb => by
    obtain ⟨b1, b2, b3, b4, b5, b6, b7, b8⟩ := hb
    have hf := fun h => g_form kind item long many kids shares h b5 b6
    simp only [encL_eq] at hf ⊢
    refine acalls_of tyok Tryd.func24 rfl (by kernel_rfl) fun c => ?_; simp only [Tryd.ntmps24, List.length_cons, List.length_nil, Nat.reduceAdd, Nat.reduceSub, jnk_rep, List.cons_append, List.nil_append]
    refine ruG (mdL [(6, 1)]) trivial ?_; (repeat' (with_reducible refine AndQ.mk ?_ ?_)); (all_goals (try ((with_reducible refine kin ?_); intro K1 hK1)))
    refine (a_outside kind 1 5 _).mono ?_; rintro _ hz ⟨rfl, hh⟩; refine hK1 _ ?_; clear hK1 K1; rw [hh]; clear hh hz
    refine ruG (mdL [(6, 1)]) trivial ?_; (repeat' (with_reducible refine AndQ.mk ?_ ?_)); (all_goals (try ((with_reducible refine kin ?_); intro K1 hK1)))
    refine awp_cond (t := _) rfl (fun h1 => ?_) (fun h1 => ?_)
    · refine ruG (mdL [(6, 1)]) trivial ?_; (repeat' (with_reducible refine AndQ.mk ?_ ?_)); (all_goals (try ((with_reducible refine kin ?_); intro K1 hK1)))
      refine rtG Tryd.results24 ?_
      exact ⟨_, _, Weak.refl _, Hp.le.refl _, by rw [partF_eq, show outB kind 1 5 = true from h1]; rfl, rfl⟩
    · refine ruG (mdL [(6, 1)]) trivial ?_; (repeat' (with_reducible refine AndQ.mk ?_ ?_)); (all_goals (try ((with_reducible refine kin ?_); intro K1 hK1)))
      refine (hf _).mono ?_; rintro _ hz ⟨rfl, hh⟩; refine hK1 _ ?_; clear hK1 K1; rw [hh]; clear hh hz
      refine ruG (mdL [(6, 1)]) trivial ?_; (repeat' (with_reducible refine AndQ.mk ?_ ?_)); (all_goals (try ((with_reducible refine kin ?_); intro K1 hK1)))
      refine awp_cond (t := _) rfl (fun h2 => ?_) (fun h2 => ?_)
      · refine ruG (mdL [(6, 1)]) trivial ?_; (repeat' (with_reducible refine AndQ.mk ?_ ?_)); (all_goals (try ((with_reducible refine kin ?_); intro K1 hK1)))
        refine rtG Tryd.results24 ?_
        exact ⟨_, _, Weak.refl _, Hp.le.refl _, by rw [partF_eq, show outB kind 1 5 = false from h1, h2]; rfl, rfl⟩
      · refine rrG (mdL [(6, 1)]) trivial ?_; (repeat' (with_reducible refine AndQ.mk ?_ ?_)); (all_goals (try ((with_reducible refine kin ?_); intro K1 hK1)))
        refine awp_seq ?_
        refine awp_join (rl false [1, 1, 62]) 0 (fun s => ((kind == 1 && !keyB item) = false ∧ (kind == 1 && outB long 1 3600000) = false ∧ (kind == 5 && outB many 1 100) = false) ∧
          s = ⟨(AV.junk :: ((.ref [.v (.int .i64 kind), .v (.string item), .v (.int .i64 long), .v (.int .i64 many), .row 6 (kids.map encL) none, .row 1 (shares.map encI) none] 0) :: (jnk 62 []))), [], h0⟩) ?_ ?_
        · have key : ∀ q1 q5 : Bool, (kind == 1) = q1 → (kind == 5) = q5 → (q1 && q5) = false → (q1 = true ∧ q5 = false ∨ q1 = false ∧ q5 = true ∨ q1 = false ∧ q5 = false) := by intro q1 q5 _ _; cases q1 <;> cases q5 <;> simp
          rcases key _ _ rfl rfl (by simp; omega) with ⟨e1, e5⟩ | ⟨e1, e5⟩ | ⟨e1, e5⟩
          · refine ruG (mdL [(6, 1)]) (And.intro e1 e5) ?_; (repeat' (with_reducible refine AndQ.mk ?_ ?_)); (all_goals (try ((with_reducible refine kin ?_); intro K1 hK1)))
            refine (a_isKey item (by omega) _).mono ?_; rintro _ hz ⟨rfl, hh⟩; refine ⟨rfl, hK1 _ ?_⟩; clear hK1 K1; rw [hh]; clear hh hz
            refine ruG (mdL [(6, 1)]) (And.intro e1 e5) ?_; (repeat' (with_reducible refine AndQ.mk ?_ ?_)); (all_goals (try ((with_reducible refine kin ?_); intro K1 hK1)))
            refine awp_cond (t := _) rfl (fun h3 => ?_) (fun h3 => ?_)
            · refine ruG (mdL [(6, 1)]) trivial ?_; (repeat' (with_reducible refine AndQ.mk ?_ ?_)); (all_goals (try ((with_reducible refine kin ?_); intro K1 hK1)))
              refine rtG Tryd.results24 ?_
              exact ⟨_, _, Weak.refl _, Hp.le.refl _, by rw [partF_eq, show outB kind 1 5 = false from h1, h2, e1, h3]; rfl, rfl⟩
            · refine ruG (mdL [(6, 1)]) (And.intro e1 e5) ?_; (repeat' (with_reducible refine AndQ.mk ?_ ?_)); (all_goals (try ((with_reducible refine kin ?_); intro K1 hK1)))
              refine (a_outside long 1 3600000 _).mono ?_; rintro _ hz ⟨rfl, hh⟩; refine ⟨rfl, hK1 _ ?_⟩; clear hK1 K1; rw [hh]; clear hh hz
              refine ruG (mdL [(6, 1)]) (And.intro e1 e5) ?_; (repeat' (with_reducible refine AndQ.mk ?_ ?_)); (all_goals (try ((with_reducible refine kin ?_); intro K1 hK1)))
              refine awp_cond (t := _) rfl (fun h4 => ?_) (fun h4 => ?_)
              · refine ruG (mdL [(6, 1)]) trivial ?_; (repeat' (with_reducible refine AndQ.mk ?_ ?_)); (all_goals (try ((with_reducible refine kin ?_); intro K1 hK1)))
                refine rtG Tryd.results24 ?_
                exact ⟨_, _, Weak.refl _, Hp.le.refl _, by rw [partF_eq, show outB kind 1 5 = false from h1, h2, e1, h3, show outB long 1 3600000 = true from h4]; rfl, rfl⟩
              · refine ruG (mdL [(6, 1)]) (And.intro e1 e5) ?_; (repeat' (with_reducible refine AndQ.mk ?_ ?_)); (all_goals (try ((with_reducible refine kin ?_); intro K1 hK1)))
                refine awp_cond (t := _) rfl (fun h5 => by cases h5) (fun h5 => ?_)
                refine ruG (mdL [(6, 1)]) (And.intro e1 e5) ?_; (repeat' (with_reducible refine AndQ.mk ?_ ?_)); (all_goals (try ((with_reducible refine kin ?_); intro K1 hK1)))
                exact ⟨⟨by simp only [e1, e5, h3, Bool.true_and, Bool.false_and], by simp only [e1, e5, outB, h4, Bool.true_and, Bool.false_and], by simp only [e1, e5, outB, h4, Bool.true_and, Bool.false_and]⟩, rfl⟩
          · refine ruG (mdL [(6, 1)]) (And.intro e1 e5) ?_; (repeat' (with_reducible refine AndQ.mk ?_ ?_)); (all_goals (try ((with_reducible refine kin ?_); intro K1 hK1)))
            refine ⟨.v (.bool false), rfl, True.intro, hK1 _ ?_⟩; clear hK1 K1
            refine ruG (mdL [(6, 1)]) (And.intro e1 e5) ?_; (repeat' (with_reducible refine AndQ.mk ?_ ?_)); (all_goals (try ((with_reducible refine kin ?_); intro K1 hK1)))
            refine awp_cond (t := _) rfl (fun h5 => by cases h5) (fun h5 => ?_)
            refine ruG (mdL [(6, 1)]) (And.intro e1 e5) ?_; (repeat' (with_reducible refine AndQ.mk ?_ ?_)); (all_goals (try ((with_reducible refine kin ?_); intro K1 hK1)))
            refine awp_cond (t := _) rfl (fun h5 => by cases h5) (fun h5 => ?_)
            refine ruG (mdL [(6, 1)]) (And.intro e1 e5) ?_; (repeat' (with_reducible refine AndQ.mk ?_ ?_)); (all_goals (try ((with_reducible refine kin ?_); intro K1 hK1)))
            refine (a_outside many 1 100 _).mono ?_; rintro _ hz ⟨rfl, hh⟩; refine ⟨rfl, hK1 _ ?_⟩; clear hK1 K1; rw [hh]; clear hh hz
            refine ruG (mdL [(6, 1)]) (And.intro e1 e5) ?_; (repeat' (with_reducible refine AndQ.mk ?_ ?_)); (all_goals (try ((with_reducible refine kin ?_); intro K1 hK1)))
            refine awp_cond (t := _) rfl (fun h4 => ?_) (fun h4 => ?_)
            · refine ruG (mdL [(6, 1)]) trivial ?_; (repeat' (with_reducible refine AndQ.mk ?_ ?_)); (all_goals (try ((with_reducible refine kin ?_); intro K1 hK1)))
              refine rtG Tryd.results24 ?_
              exact ⟨_, _, Weak.refl _, Hp.le.refl _, by rw [partF_eq, show outB kind 1 5 = false from h1, h2, e1, e5, show outB many 1 100 = true from h4]; rfl, rfl⟩
            · refine ruG (mdL [(6, 1)]) trivial ?_; (repeat' (with_reducible refine AndQ.mk ?_ ?_)); (all_goals (try ((with_reducible refine kin ?_); intro K1 hK1)))
              exact ⟨⟨by simp only [e1, e5, h4, Bool.true_and, Bool.false_and], by simp only [e1, e5, outB, h4, Bool.true_and, Bool.false_and], by simp only [e1, e5, outB, h4, Bool.true_and, Bool.false_and]⟩, rfl⟩
          · refine ruG (mdL [(6, 1)]) (And.intro e1 e5) ?_; (repeat' (with_reducible refine AndQ.mk ?_ ?_)); (all_goals (try ((with_reducible refine kin ?_); intro K1 hK1)))
            refine ⟨.v (.bool false), rfl, True.intro, hK1 _ ?_⟩; clear hK1 K1
            refine ruG (mdL [(6, 1)]) (And.intro e1 e5) ?_; (repeat' (with_reducible refine AndQ.mk ?_ ?_)); (all_goals (try ((with_reducible refine kin ?_); intro K1 hK1)))
            refine awp_cond (t := _) rfl (fun h5 => by cases h5) (fun h5 => ?_)
            refine ruG (mdL [(6, 1)]) (And.intro e1 e5) ?_; (repeat' (with_reducible refine AndQ.mk ?_ ?_)); (all_goals (try ((with_reducible refine kin ?_); intro K1 hK1)))
            refine awp_cond (t := _) rfl (fun h5 => by cases h5) (fun h5 => ?_)
            refine ruG (mdL [(6, 1)]) (And.intro e1 e5) ?_; (repeat' (with_reducible refine AndQ.mk ?_ ?_)); (all_goals (try ((with_reducible refine kin ?_); intro K1 hK1)))
            refine awp_cond (t := _) rfl (fun h5 => by cases h5) (fun h5 => ?_)
            refine ruG (mdL [(6, 1)]) (And.intro e1 e5) ?_; (repeat' (with_reducible refine AndQ.mk ?_ ?_)); (all_goals (try ((with_reducible refine kin ?_); intro K1 hK1)))
            exact ⟨⟨by simp only [e1, e5, h1, Bool.true_and, Bool.false_and], by simp only [e1, e5, outB, h1, Bool.true_and, Bool.false_and], by simp only [e1, e5, outB, h1, Bool.true_and, Bool.false_and]⟩, rfl⟩
        · rintro _ ⟨⟨h3, h4, h5⟩, rfl⟩
          have hpf : partF (.mk kind item long many kids shares) = if shares.any (fun n => outB n 1 1000) then 1 else firstNZ (kids.map partF) := by
            rw [partF_eq, show outB kind 1 5 = false from h1, h2, h3, h4, h5]; rfl
          refine rrG (mdL [(6, 1)]) trivial ?_; (repeat' (with_reducible refine AndQ.mk ?_ ?_)); (all_goals (try ((with_reducible refine kin ?_); intro K1 hK1)))
          refine awp_seq ?_
          refine awp_join (rl false [1, 1, 62]) 0 (fun s => shares.any (fun n => outB n 1 1000) = false ∧
            s = ⟨(AV.junk :: ((.ref [.v (.int .i64 kind), .v (.string item), .v (.int .i64 long), .v (.int .i64 many), .row 6 (kids.map encL) none, .row 1 (shares.map encI) none] 0) :: (jnk 62 []))), [], h0⟩) ?_ ?_
          · refine ruG (mdL [(6, 1)]) trivial ?_; (repeat' (with_reducible refine AndQ.mk ?_ ?_)); (all_goals (try ((with_reducible refine kin ?_); intro K1 hK1)))
            refine awp_loopC (rl false [1, 1, 40, 3, 19]) 0 (fun g s => ∃ j : Nat, g + j = shares.length ∧ (shares.take j).any (fun n => outB n 1 1000) = false ∧
              s = ⟨(AV.junk :: ((.ref [.v (.int .i64 kind), .v (.string item), .v (.int .i64 long), .v (.int .i64 many), .row 6 (kids.map encL) none, .row 1 (shares.map encI) none] 0) :: (jnk 40 ((.row 1 (shares.map encI) none) :: (.v (.int .i64 shares.length)) :: (.v (.int .i64 j)) :: (jnk 19 []))))), [], h0⟩) shares.length ⟨0, by omega, rfl, rfl⟩ ?_
            rintro g _ ⟨j, hj, hany, rfl⟩
            refine ruG (mdL [(6, 1)]) trivial ?_; (repeat' (with_reducible refine AndQ.mk ?_ ?_)); (all_goals (try ((with_reducible refine kin ?_); intro K1 hK1)))
            refine awp_cond (t := _) rfl (fun h6 => ?_) (fun h6 => ?_)
            · simp only [decide_eq_true_eq] at h6
              have hjk : j < shares.length := by omega
              have hg : (shares.map encI).getD j [] = encI (shares.getD j default) := getD_enc encI shares j default hjk
              have e1 := take_succ_map (fun n => outB n 1 1000) shares j hjk
              generalize hsv : shares.getD j default = sv at hg e1
              have hmem := getD_mem' shares j default hjk
              rw [hsv] at hmem
              refine ruG (mdL [(6, 1)]) (And.intro @Int.toNat_natCast (And.intro hg @encI.eq_1)) ?_; (repeat' (with_reducible refine AndQ.mk ?_ ?_)); (all_goals (try ((with_reducible refine kin ?_); intro K1 hK1)))
              refine (a_outside sv 1 1000 _).mono ?_; rintro _ hz ⟨rfl, hh⟩; refine hK1 _ ?_; clear hK1 K1; rw [hh]; clear hh hz
              refine ruG (mdL [(6, 1)]) trivial ?_; (repeat' (with_reducible refine AndQ.mk ?_ ?_)); (all_goals (try ((with_reducible refine kin ?_); intro K1 hK1)))
              refine awp_cond (t := _) rfl (fun h7 => ?_) (fun h7 => ?_)
              · refine ruG (mdL [(6, 1)]) trivial ?_; (repeat' (with_reducible refine AndQ.mk ?_ ?_)); (all_goals (try ((with_reducible refine kin ?_); intro K1 hK1)))
                refine rtG Tryd.results24 ?_
                exact ⟨_, _, Weak.refl _, Hp.le.refl _, by rw [hpf, if_pos (List.any_eq_true.2 ⟨sv, hmem, h7⟩)], rfl⟩
              · refine ruG (mdL [(6, 1)]) trivial ?_; (repeat' (with_reducible refine AndQ.mk ?_ ?_)); (all_goals (try ((with_reducible refine kin ?_); intro K1 hK1)))
                refine ⟨g - 1, by omega, j + 1, by omega, ?_, rfl⟩
                rw [List.any_eq_false] at hany ⊢
                intro x hx
                rw [List.take_succ] at hx
                rcases List.mem_append.1 hx with hx | hx
                · exact hany x hx
                · rw [List.getElem?_eq_getElem hjk] at hx
                  rw [List.getD_eq_getElem?_getD, List.getElem?_eq_getElem hjk] at hsv
                  simp at hx hsv
                  rw [hx, hsv]
                  exact by simpa [outB] using h7
            · simp only [decide_eq_false_iff_not] at h6
              have hjk : j = shares.length := by omega
              subst hjk
              rw [List.take_length] at hany
              refine ruG (mdL [(6, 1)]) trivial ?_; (repeat' (with_reducible refine AndQ.mk ?_ ?_)); (all_goals (try ((with_reducible refine kin ?_); intro K1 hK1)))
              exact ⟨hany, rfl⟩
          · rintro _ ⟨hany, rfl⟩
            rw [if_neg (by rw [hany]; simp)] at hpf
            refine ruG (mdL [(6, 1)]) trivial ?_; (repeat' (with_reducible refine AndQ.mk ?_ ?_)); (all_goals (try ((with_reducible refine kin ?_); intro K1 hK1)))
            refine awp_loopC (rl false [52, 3, 9]) 0 (fun g s => ∃ j : Nat, g + j = kids.length ∧ firstNZ ((kids.map partF).take j) = 0 ∧
              s = ⟨((jnk 52 ((.row 6 (kids.map encL) none) :: (.v (.int .i64 kids.length)) :: (.v (.int .i64 j)) :: (jnk 9 [])))), [], h0⟩) kids.length ⟨0, by omega, rfl, rfl⟩ ?_
            rintro g _ ⟨j, hj, hnz, rfl⟩
            refine ruG (mdL [(6, 1)]) trivial ?_; (repeat' (with_reducible refine AndQ.mk ?_ ?_)); (all_goals (try ((with_reducible refine kin ?_); intro K1 hK1)))
            refine awp_cond (t := _) rfl (fun h6 => ?_) (fun h6 => ?_)
            · simp only [decide_eq_true_eq] at h6
              have hjk : j < kids.length := by omega
              have hg : (kids.map encL).getD j [] = encL (kids.getD j default) := getD_enc encL kids j default hjk
              have hmem := getD_mem' kids j default hjk
              have hbt := b8 _ hmem
              have hgp : (kids.map partF)[j]? = some (partF (kids.getD j default)) := by rw [List.getElem?_map, List.getElem?_eq_getElem hjk, List.getD_eq_getElem?_getD, List.getElem?_eq_getElem hjk]; rfl
              have e1 : (kids.map partF).take (j + 1) = (kids.map partF).take j ++ [partF (kids.getD j default)] := by rw [List.take_succ, hgp]; rfl
              generalize kids.getD j default = t2 at hg hmem hbt hgp e1
              have hlen := encL_len t2
              have htk : List.take 6 (encL t2) = encL t2 := List.take_of_length_le (Nat.le_of_eq hlen)
              have hdr : List.drop 6 (encL t2) = [] := List.drop_of_length_le (Nat.le_of_eq hlen)
              refine ruG (mdL [(6, 1)]) (And.intro @Int.toNat_natCast (And.intro hg (And.intro hlen (And.intro htk hdr)))) ?_; (repeat' (with_reducible refine AndQ.mk ?_ ?_)); (all_goals (try ((with_reducible refine kin ?_); intro K1 hK1)))
              refine (g_part24 d t2 h0 hbt).mono ?_; rintro _ hz ⟨rfl, hh⟩; refine hK1 _ ?_; clear hK1 K1; rw [hh]; clear hh hz
              refine ruG (mdL [(6, 1)]) trivial ?_; (repeat' (with_reducible refine AndQ.mk ?_ ?_)); (all_goals (try ((with_reducible refine kin ?_); intro K1 hK1)))
              refine awp_cond (t := _) rfl (fun h7 => ?_) (fun h7 => ?_)
              · refine ruG (mdL [(6, 1)]) trivial ?_; (repeat' (with_reducible refine AndQ.mk ?_ ?_)); (all_goals (try ((with_reducible refine kin ?_); intro K1 hK1)))
                refine rtG Tryd.results24 ?_
                exact ⟨_, _, Weak.refl _, Hp.le.refl _, by rw [hpf, firstNZ_pre _ j _ hgp (by simpa using h7) hnz], rfl⟩
              · refine ruG (mdL [(6, 1)]) trivial ?_; (repeat' (with_reducible refine AndQ.mk ?_ ?_)); (all_goals (try ((with_reducible refine kin ?_); intro K1 hK1)))
                refine ⟨g - 1, by omega, j + 1, by omega, ?_, rfl⟩
                rw [e1, firstNZ_app, if_pos hnz]
                simpa using h7
            · simp only [decide_eq_false_iff_not] at h6
              have hjk : j = kids.length := by omega
              rw [List.take_of_length_le (by simp; omega)] at hnz
              refine ruG (mdL [(6, 1)]) trivial ?_; (repeat' (with_reducible refine AndQ.mk ?_ ?_)); (all_goals (try ((with_reducible refine kin ?_); intro K1 hK1)))
              refine rtG Tryd.results24 ?_
              exact ⟨_, _, Weak.refl _, Hp.le.refl _, by rw [hpf, hnz], rfl⟩
end Go.Proofs.YtoleejecmefogaaDoor
/- signref1.partFault. -/
namespace Go.Proofs.YtoleejecmefogaaDoor
open Go
set_option maxRecDepth 100000
set_option maxHeartbeats 8000000
theorem rr22SPart2 {P Q X : Prop} (x : X) (q : Q) (h : X → Hold Q → P := by intro x0 q0; (repeat (first | (with_reducible refine awp_block ?_) | (with_reducible refine vRem_nil ?_) | (with_reducible refine vRst_nil ?_) | ((with_reducible refine vRem_id ?_); refine vRem_nil ?_) | ((first | ((with_reducible refine awp_idS (b := false) ?_); refine awp_keep 171031419293486646490912486693274495 100 (awp_seqR2 tyok (mdL [(8, 1)]) fun KN hKN => ?_)) | ((with_reducible refine awp_idR (b := false) ?_); refine awp_keep 171031419293486646490912486693274495 100 (awp_region2 tyok (mdL [(8, 1)]) fun KN hKN => ?_)) | ((with_reducible refine vRem_id ?_); refine vRem_go fun KN hKN => ?_) | ((with_reducible refine vRst_id ?_); refine vRst_go fun KN hKN => ?_) | ((with_reducible refine vMid_id ?_); refine vMid_go ?_ fun KN hKN => ?_) | ((with_reducible refine awp_idS (b := true) ?_); refine awp_keep 171031419293486646490912486693274495 100 (awp_seqD2 (id := 1) tyok (by kernel_rfl) (mdL [(8, 1)]) (E0 := [0, 1, 2, 3, 4, 5, 6, 7, 8, 9, 10, 11]) (pl := []) 120 rfl (by kernel_rfl) fun KN hKN => ?_)) | ((with_reducible refine awp_idR (b := true) ?_); refine awp_keep 171031419293486646490912486693274495 100 (awp_draw2 (id := 1) tyok (by kernel_rfl) (mdL [(8, 1)]) (E0 := [0, 1, 2, 3, 4, 5, 6, 7, 8, 9, 10, 11]) (pl := []) 120 rfl (by kernel_rfl) fun KN hKN => ?_))) <;> (simp only [vOps, jnk_zero, jnk_jnk, getD_jnk_lt, getD_jnk_ge, set_jnk_lt, set_jnk_ge, Nat.reduceSub, Nat.reduceLT, Nat.reduceLeDiff, gStep, condG, qV, binV, vV, iV, sV, bV, nV, arV, pickE, joinA, joinOk, isOpt, vEff, binE, vBin, iBin, sBin, arith, nilOf, nBin, boolOk, convI, storeE, newE, sliceE, appE, lenE, minE, biE, bndE, cellsAt, ldOk, ld, TyD.isAgg, AV.shift, AV.isAddr, AV.cellsB, AV.noLoc, rowOf, litRow, fillA, opS, uside, unw, evL, cv, St.put, opsOf, Value.oneCell', vIdx, stepI, vRest, reL, reI, mdL, splice, bef, aft, isCallB, isCallV, ↓reduceIte, Nat.reduceAdd, reduceCtorEq, Nat.reduceEqDiff, Nat.reduceMul, lemA, lemT, x0, St.keep, keepL_nil, keepL_c1, keepL_c0, keepL_jnk, cutLoc, List.take_nil, List.take_succ_cons, List.take_zero, Nat.reduceLT, Nat.reduceMod, Nat.reduceDiv, Nat.reducePow]; (try and_intros); (all_goals first | (refine hKN _ ?_; clear hKN KN) | (first | exact True.intro | (intros; first | exact True.intro | (with_reducible assumption) | omega | (with_reducible rfl) | (with_reducible decide) | (simp_all; done) | (simp_all; omega))) | skip))) | (with_reducible refine awp_skip ?_) | (with_reducible refine awp_exit ?_) | (with_reducible refine thenQ_normal ?_) | (with_reducible refine inBlock_normal ?_) | (with_reducible refine thenQ_exit ?_) | (with_reducible refine inBlock_exit ?_) | (with_reducible refine inBlock_other (by decide) ?_))); (all_goals (try revert KN)); first | (exact q0.out; done) | (apply Hold.fst; exact q0; apply Hold.snd; exact q0; done) | (apply Hold.a; exact q0; apply Hold.b; exact q0; apply Hold.c; exact q0; done) | (apply Hold.a4; exact q0; apply Hold.b4; exact q0; apply Hold.c4; exact q0; apply Hold.d4; exact q0; done)) : P := h x ⟨q⟩
theorem ru22SPart2 {P Q X : Prop} (x : X) (q : Q) (h : X → Hold Q → P := by intro x0 q0; (repeat (first | (with_reducible refine awp_block ?_) | (with_reducible refine vRem_nil ?_) | (with_reducible refine vRst_nil ?_) | ((with_reducible refine vRem_id ?_); refine vRem_nil ?_) | ((first | ((with_reducible refine awp_idS (b := false) ?_); refine awp_keep 171031419293486646490912486693274495 100 (awp_seqR2 tyok (mdL [(8, 1)]) fun KN hKN => ?_)) | ((with_reducible refine awp_idR (b := false) ?_); refine awp_keep 171031419293486646490912486693274495 100 (awp_region2 tyok (mdL [(8, 1)]) fun KN hKN => ?_)) | ((with_reducible refine vRem_id ?_); refine vRem_go fun KN hKN => ?_) | ((with_reducible refine vRst_id ?_); refine vRst_go fun KN hKN => ?_) | ((with_reducible refine vMid_id ?_); refine vMid_go ?_ fun KN hKN => ?_) | ((with_reducible refine awp_idS (b := true) ?_); refine awp_keep 171031419293486646490912486693274495 100 (awp_seqD2 (id := 1) tyok (by kernel_rfl) (mdL [(8, 1)]) (E0 := [0, 1, 2, 3, 4, 5, 6, 7, 8, 9, 10, 11]) (pl := []) 120 rfl (by kernel_rfl) fun KN hKN => ?_)) | ((with_reducible refine awp_idR (b := true) ?_); refine awp_keep 171031419293486646490912486693274495 100 (awp_draw2 (id := 1) tyok (by kernel_rfl) (mdL [(8, 1)]) (E0 := [0, 1, 2, 3, 4, 5, 6, 7, 8, 9, 10, 11]) (pl := []) 120 rfl (by kernel_rfl) fun KN hKN => ?_))) <;> (simp only [vOps, jnk_zero, jnk_jnk, getD_jnk_lt, getD_jnk_ge, set_jnk_lt, set_jnk_ge, Nat.reduceSub, Nat.reduceLT, Nat.reduceLeDiff, gStep, condG, qV, binV, vV, iV, sV, bV, nV, arV, pickE, joinA, joinOk, isOpt, vEff, binE, vBin, iBin, sBin, arith, nilOf, nBin, boolOk, convI, storeE, newE, sliceE, appE, lenE, minE, biE, bndE, cellsAt, ldOk, ld, TyD.isAgg, AV.shift, AV.isAddr, AV.cellsB, AV.noLoc, rowOf, litRow, fillA, opS, uside, unw, evL, cv, St.put, opsOf, Value.oneCell', vIdx, stepI, vRest, reL, reI, mdL, splice, bef, aft, isCallB, isCallV, ↓reduceIte, Nat.reduceAdd, reduceCtorEq, Nat.reduceEqDiff, Nat.reduceMul, lemA, lemT, x0, St.keep, keepL_nil, keepL_c1, keepL_c0, keepL_jnk, cutLoc, List.take_nil, List.take_succ_cons, List.take_zero, Nat.reduceLT, Nat.reduceMod, Nat.reduceDiv, Nat.reducePow]; (try and_intros); (all_goals first | (refine hKN _ ?_; clear hKN KN) | (first | exact True.intro | (intros; first | exact True.intro | (with_reducible assumption) | omega | (with_reducible rfl) | (with_reducible decide) | (simp_all; done) | (simp_all; omega))) | skip))) | (with_reducible refine awp_seq ?_) | (with_reducible refine awp_skip ?_) | (with_reducible refine awp_exit ?_) | (with_reducible refine thenQ_normal ?_) | (with_reducible refine inBlock_normal ?_) | (with_reducible refine thenQ_exit ?_) | (with_reducible refine inBlock_exit ?_) | (with_reducible refine inBlock_other (by decide) ?_))); (all_goals (try revert KN)); first | (exact q0.out; done) | (apply Hold.fst; exact q0; apply Hold.snd; exact q0; done) | (apply Hold.a; exact q0; apply Hold.b; exact q0; apply Hold.c; exact q0; done) | (apply Hold.a4; exact q0; apply Hold.b4; exact q0; apply Hold.c4; exact q0; apply Hold.d4; exact q0; done)) : P := h x ⟨q⟩
theorem a_in2 (x lo hi : Int) (h : Hp) : ACalls Tryd.prog 37 [.v (.int .i64 x), .v (.int .i64 lo), .v (.int .i64 hi)] h (fun r h' => r = .v (.bool (!outB x lo hi)) ∧ h' = h) :=
  (a_in x lo hi h).mono fun r h' ⟨e, e2⟩ => ⟨by rw [e, outB]; congr 2; rw [Bool.eq_iff_iff]; simp, e2⟩
theorem g_share40 (x : Int) (h : Hp) : ACalls Tryd.prog 40 [.v (.int .i64 x)] h (fun r h' => r = .v (.bool (outB x 1 1000)) ∧ h' = h) := by
  refine acalls_of tyok Tryd.func40 rfl (by kernel_rfl) fun c => ?_; simp only [Tryd.ntmps40, List.length_cons, List.length_nil, Nat.reduceAdd, Nat.reduceSub, jnk_rep, List.cons_append, List.nil_append]
  refine ruG (mdL []) trivial ?_; (repeat' (with_reducible refine AndQ.mk ?_ ?_)); (all_goals (try ((with_reducible refine kin ?_); intro K1 hK1)))
  refine (a_in2 x 1 1000 h).mono ?_; rintro _ hz ⟨rfl, hh⟩; refine hK1 _ ?_; clear hK1 K1; rw [hh]; clear hh hz
  refine ruG (mdL []) trivial ?_; (repeat' (with_reducible refine AndQ.mk ?_ ?_)); (all_goals (try ((with_reducible refine kin ?_); intro K1 hK1)))
  refine rtG Tryd.results40 ?_
  exact ⟨_, _, Weak.refl _, Hp.le.refl _, by simp, rfl⟩
theorem g_shares (l : List Int) (hl : l.length ≤ 1000) (h : Hp) : ACalls Tryd.prog 39 [.row 1 (l.map encI) none, .fn 40 []] h (fun r h' => r = .v (.bool (l.any fun n => outB n 1 1000)) ∧ h' = h) := by
  refine (g_contains39 40 [] l (by omega) (fun j h' => h' = h ∧ (l.take j).any (fun n => outB n 1 1000) = false) (fun j h' => h' = h ∧ outB (l.getD j 0) 1 1000 = true) h ⟨rfl, rfl⟩ ?_).mono ?_
  · rintro j h' hj ⟨rfl, hI⟩
    refine (g_share40 _ _).mono ?_
    rintro _ h2 ⟨rfl, hh⟩
    refine ⟨_, rfl, fun hb => ⟨hh, hb⟩, fun hb => ⟨hh, ?_⟩⟩
    rw [List.any_eq_false] at hI ⊢
    intro x hx
    rw [List.take_succ, List.getElem?_eq_getElem hj] at hx
    rcases List.mem_append.1 hx with hx | hx
    · exact hI x hx
    · rw [List.getD_eq_getElem?_getD, List.getElem?_eq_getElem hj] at hb
      simp at hx hb
      rw [hx]; simpa using hb
  · rintro _ h' (⟨j, hj, rfl, hh, hb⟩ | ⟨rfl, hh, hI⟩)
    · exact ⟨by rw [List.any_eq_true.2 ⟨_, getD_mem' l j 0 hj, hb⟩], hh⟩
    · rw [List.take_length] at hI
      exact ⟨by rw [hI], hh⟩
theorem g_part22 : ∀ (d : Nat) (t : LT) (h : Hp), LC d t → ACalls Tryd.prog 22 [.agg (encL t)] h (fun r h' => r = .v (.int .i64 (partF t)) ∧ h' = h)
  | 0, _, _, hb => hb.elim
  | d + 1, .mk kind item long many kids shares, h0, hb => by
    obtain ⟨b1, b2, b3, b4, b5, b6, b7, b8⟩ := hb
    simp only [encL_eq]
    refine acalls_of tyok Tryd.func22 rfl (by kernel_rfl) fun c => ?_; simp only [Tryd.ntmps22, List.length_cons, List.length_nil, Nat.reduceAdd, Nat.reduceSub, jnk_rep, List.cons_append, List.nil_append]
    refine rr22SPart2 trivial ?_; (repeat' (with_reducible refine AndQ.mk ?_ ?_)); (all_goals (try ((with_reducible refine kin ?_); intro K1 hK1)))
    refine awp_seq ?_
    refine awp_join (rl false [1, 1, 118]) 0 (fun s => partF (.mk kind item long many kids shares) = firstNZ (kids.map partF) ∧ s = ⟨(AV.junk :: ((.ref [.v (.int .i64 kind), .v (.string item), .v (.int .i64 long), .v (.int .i64 many), .row 6 (kids.map encL) none, .row 1 (shares.map encI) none] 0) :: (jnk 118 []))), [], h0⟩) ?_ ?_
    · refine ru22SPart2 trivial ?_; (repeat' (with_reducible refine AndQ.mk ?_ ?_)); (all_goals (try ((with_reducible refine kin ?_); intro K1 hK1)))
      refine (a_in2 kind 1 5 _).mono ?_; rintro _ hz ⟨rfl, hh⟩; refine hK1 _ ?_; clear hK1 K1; rw [hh]; clear hh hz
      refine ru22SPart2 trivial ?_; (repeat' (with_reducible refine AndQ.mk ?_ ?_)); (all_goals (try ((with_reducible refine kin ?_); intro K1 hK1)))
      refine awp_cond (t := _) rfl (fun h1 => ?_) (fun h1 => ?_)
      · refine ru22SPart2 trivial ?_; (repeat' (with_reducible refine AndQ.mk ?_ ?_)); (all_goals (try ((with_reducible refine kin ?_); intro K1 hK1)))
        refine rtG Tryd.results22 ?_
        exact ⟨_, _, Weak.refl _, Hp.le.refl _, by rw [partF_eq, h1]; rfl, rfl⟩
      have hgt : decide ((0 : Int) < shares.length) = ((shares.length : Int) != 0) := by rw [Bool.eq_iff_iff]; simp only [decide_eq_true_eq, bne_iff_ne, ne_eq]; omega
      have key : ∀ q1 q4 q5 : Bool, (kind == 1) = q1 → (kind == 4) = q4 → (kind == 5) = q5 → (q1 && q4) = false → (q1 && q5) = false → (q4 && q5) = false → (q1 = true ∧ q4 = false ∧ q5 = false ∨ q1 = false ∧ q4 = true ∧ q5 = false ∨ q1 = false ∧ q4 = false ∧ q5 = true ∨ q1 = false ∧ q4 = false ∧ q5 = false) := by intro q1 q4 q5 _ _ _; cases q1 <;> cases q4 <;> cases q5 <;> simp
      rcases key _ _ _ rfl rfl rfl (by simp; omega) (by simp; omega) (by simp; omega) with ⟨e1, e4, e5⟩ | ⟨e1, e4, e5⟩ | ⟨e1, e4, e5⟩ | ⟨e1, e4, e5⟩ <;> clear key <;> (repeat' (first | (with_reducible refine awp_block ?_) | (with_reducible refine vRem_nil ?_) | (with_reducible refine vRst_nil ?_) | ((with_reducible refine vRem_id ?_); refine vRem_nil ?_) | ((first | ((with_reducible refine awp_idS (b := false) ?_); refine awp_keep 171031419293486646490912486693274495 100 (awp_seqR2 tyok (mdL [(8, 1)]) fun K1 hK1 => ?_)) | ((with_reducible refine awp_idR (b := false) ?_); refine awp_keep 171031419293486646490912486693274495 100 (awp_region2 tyok (mdL [(8, 1)]) fun K1 hK1 => ?_)) | ((with_reducible refine vRem_id ?_); refine vRem_go fun K1 hK1 => ?_) | ((with_reducible refine vRst_id ?_); refine vRst_go fun K1 hK1 => ?_) | ((with_reducible refine vMid_id ?_); refine vMid_go ?_ fun K1 hK1 => ?_) | ((with_reducible refine awp_idS (b := true) ?_); refine awp_keep 171031419293486646490912486693274495 100 (awp_seqD2 (id := 1) tyok (by kernel_rfl) (mdL [(8, 1)]) (E0 := [0, 1, 2, 3, 4, 5, 6, 7, 8, 9, 10, 11]) (pl := []) 120 rfl (by kernel_rfl) fun K1 hK1 => ?_)) | ((with_reducible refine awp_idR (b := true) ?_); refine awp_keep 171031419293486646490912486693274495 100 (awp_draw2 (id := 1) tyok (by kernel_rfl) (mdL [(8, 1)]) (E0 := [0, 1, 2, 3, 4, 5, 6, 7, 8, 9, 10, 11]) (pl := []) 120 rfl (by kernel_rfl) fun K1 hK1 => ?_))) <;> (simp only [vOps, jnk_zero, jnk_jnk, getD_jnk_lt, getD_jnk_ge, set_jnk_lt, set_jnk_ge, Nat.reduceSub, Nat.reduceLT, Nat.reduceLeDiff, gStep, condG, qV, binV, vV, iV, sV, bV, nV, arV, pickE, joinA, joinOk, isOpt, vEff, binE, vBin, iBin, sBin, arith, nilOf, nBin, boolOk, convI, storeE, newE, sliceE, appE, lenE, minE, biE, bndE, cellsAt, ldOk, ld, TyD.isAgg, AV.shift, AV.isAddr, AV.cellsB, AV.noLoc, rowOf, litRow, fillA, opS, uside, unw, evL, cv, St.put, opsOf, Value.oneCell', vIdx, stepI, vRest, reL, reI, mdL, splice, bef, aft, isCallB, isCallV, ↓reduceIte, Nat.reduceAdd, reduceCtorEq, Nat.reduceEqDiff, Nat.reduceMul, lemA, lemT, e1, e4, e5, hgt, St.keep, keepL_nil, keepL_c1, keepL_c0, keepL_jnk, cutLoc, List.take_nil, List.take_succ_cons, List.take_zero, Nat.reduceLT, Nat.reduceMod, Nat.reduceDiv, Nat.reducePow]; (try and_intros); (all_goals first | (refine hK1 _ ?_; clear hK1 K1) | (first | exact True.intro | (intros; first | exact True.intro | (with_reducible assumption) | omega | (with_reducible rfl) | (with_reducible decide) | (simp_all; done) | (simp_all; omega))) | skip))) | (with_reducible refine awp_seq ?_) | (with_reducible refine awp_skip ?_) | (with_reducible refine awp_exit ?_) | (with_reducible refine thenQ_normal ?_) | (with_reducible refine inBlock_normal ?_) | (with_reducible refine thenQ_exit ?_) | (with_reducible refine inBlock_exit ?_) | (with_reducible refine inBlock_other (by decide) ?_) | (refine awp_cond (t := _) rfl (fun hcnd => ?_) (fun hcnd => ?_) <;> first | (cases hcnd; done) | (simp only [hcnd]) | skip)))
      all_goals first | (refine rtG Tryd.results22 ?_; exact ⟨_, _, Weak.refl _, Hp.le.refl _, by rw [partF_eq, h1, show formB kind item long many kids.length shares.length = true from (by clear b1 b2 b3 b4 b5 b6 b7 b8 c; simp only [formB, bne, Bool.not_eq_true', Bool.not_eq_false'] at *; simp only [*, Bool.not_true, Bool.not_false, Bool.false_and, Bool.true_and, Bool.and_false, Bool.and_true, Bool.false_or, Bool.true_or, Bool.or_true, Bool.or_false])]; rfl, rfl⟩) | skip
      · have hF : formB kind item long many kids.length shares.length = false := by clear hK1 K1; clear b1 b2 b3 b4 b5 b6 b7 b8 c; simp only [formB, bne, Bool.not_eq_true', Bool.not_eq_false'] at *; simp only [*, Bool.not_true, Bool.not_false, Bool.false_and, Bool.true_and, Bool.and_false, Bool.and_true, Bool.false_or, Bool.true_or, Bool.or_true, Bool.or_false]
        refine (a_key item (by omega) _).mono ?_; rintro _ hz ⟨rfl, hh⟩; refine ⟨rfl, hK1 _ ?_⟩; clear hK1 K1; rw [hh]; clear hh hz
        refine ru22SPart2 (And.intro e1 (And.intro e4 e5)) ?_; (repeat' (with_reducible refine AndQ.mk ?_ ?_)); (all_goals (try ((with_reducible refine kin ?_); intro K1 hK1)))
        refine awp_cond (t := _) rfl (fun h3 => ?_) (fun h3 => ?_)
        · refine ru22SPart2 (And.intro e1 (And.intro e4 e5)) ?_; (repeat' (with_reducible refine AndQ.mk ?_ ?_)); (all_goals (try ((with_reducible refine kin ?_); intro K1 hK1)))
          refine rtG Tryd.results22 ?_
          exact ⟨_, _, Weak.refl _, Hp.le.refl _, by rw [partF_eq, h1, hF, e1, h3]; rfl, rfl⟩
        · refine ru22SPart2 (And.intro e1 (And.intro e4 e5)) ?_; (repeat' (with_reducible refine AndQ.mk ?_ ?_)); (all_goals (try ((with_reducible refine kin ?_); intro K1 hK1)))
          refine (a_in2 long 1 3600000 _).mono ?_; rintro _ hz ⟨rfl, hh⟩; refine ⟨rfl, hK1 _ ?_⟩; clear hK1 K1; rw [hh]; clear hh hz
          refine ru22SPart2 (And.intro e1 (And.intro e4 e5)) ?_; (repeat' (with_reducible refine AndQ.mk ?_ ?_)); (all_goals (try ((with_reducible refine kin ?_); intro K1 hK1)))
          refine awp_cond (t := _) rfl (fun h4 => ?_) (fun h4 => ?_)
          · refine ru22SPart2 (And.intro e1 (And.intro e4 e5)) ?_; (repeat' (with_reducible refine AndQ.mk ?_ ?_)); (all_goals (try ((with_reducible refine kin ?_); intro K1 hK1)))
            refine awp_cond (t := _) rfl (fun _ => ?_) (fun h => by rw [h4] at h; cases h)
            refine ru22SPart2 (And.intro e1 (And.intro e4 e5)) ?_; (repeat' (with_reducible refine AndQ.mk ?_ ?_)); (all_goals (try ((with_reducible refine kin ?_); intro K1 hK1)))
            refine rtG Tryd.results22 ?_
            exact ⟨_, _, Weak.refl _, Hp.le.refl _, by rw [partF_eq, h1, hF, e1, h3, h4]; rfl, rfl⟩
          · refine ru22SPart2 (And.intro e1 (And.intro e4 e5)) ?_; (repeat' (with_reducible refine AndQ.mk ?_ ?_)); (all_goals (try ((with_reducible refine kin ?_); intro K1 hK1)))
            refine ⟨.v (.bool false), rfl, True.intro, hK1 _ ?_⟩; clear hK1 K1
            refine ru22SPart2 (And.intro e1 (And.intro e4 e5)) ?_; (repeat' (with_reducible refine AndQ.mk ?_ ?_)); (all_goals (try ((with_reducible refine kin ?_); intro K1 hK1)))
            refine awp_cond (t := _) rfl (fun h => by cases h) (fun _ => ?_)
            refine ru22SPart2 (And.intro e1 (And.intro e4 e5)) ?_; (repeat' (with_reducible refine AndQ.mk ?_ ?_)); (all_goals (try ((with_reducible refine kin ?_); intro K1 hK1)))
            refine (g_shares shares (by omega) _).mono ?_; rintro _ hz ⟨rfl, hh⟩; refine hK1 _ ?_; clear hK1 K1; rw [hh]; clear hh hz
            refine ru22SPart2 trivial ?_; (repeat' (with_reducible refine AndQ.mk ?_ ?_)); (all_goals (try ((with_reducible refine kin ?_); intro K1 hK1)))
            refine awp_cond (t := _) rfl (fun h6 => ?_) (fun h6 => ?_)
            · refine ru22SPart2 trivial ?_; (repeat' (with_reducible refine AndQ.mk ?_ ?_)); (all_goals (try ((with_reducible refine kin ?_); intro K1 hK1)))
              refine rtG Tryd.results22 ?_
              exact ⟨_, _, Weak.refl _, Hp.le.refl _, by rw [partF_eq, h1, hF, e1, h3, h4, e5, h6]; rfl, rfl⟩
            · refine ru22SPart2 trivial ?_; (repeat' (with_reducible refine AndQ.mk ?_ ?_)); (all_goals (try ((with_reducible refine kin ?_); intro K1 hK1)))
              exact ⟨by rw [partF_eq, h1, hF, e1, h3, h4, e5, h6]; rfl, rfl⟩
      · have hF : formB kind item long many kids.length shares.length = false := by clear hK1 K1; clear b1 b2 b3 b4 b5 b6 b7 b8 c; simp only [formB, bne, Bool.not_eq_true', Bool.not_eq_false'] at *; simp only [*, Bool.not_true, Bool.not_false, Bool.false_and, Bool.true_and, Bool.and_false, Bool.and_true, Bool.false_or, Bool.true_or, Bool.or_true, Bool.or_false]
        refine ⟨.v (.bool false), rfl, True.intro, hK1 _ ?_⟩; clear hK1 K1
        refine ru22SPart2 (And.intro e1 (And.intro e4 e5)) ?_; (repeat' (with_reducible refine AndQ.mk ?_ ?_)); (all_goals (try ((with_reducible refine kin ?_); intro K1 hK1)))
        refine awp_cond (t := _) rfl (fun h => by cases h) (fun _ => ?_)
        refine ru22SPart2 (And.intro e1 (And.intro e4 e5)) ?_; (repeat' (with_reducible refine AndQ.mk ?_ ?_)); (all_goals (try ((with_reducible refine kin ?_); intro K1 hK1)))
        refine ⟨.v (.bool false), rfl, True.intro, hK1 _ ?_⟩; clear hK1 K1
        refine ru22SPart2 (And.intro e1 (And.intro e4 e5)) ?_; (repeat' (with_reducible refine AndQ.mk ?_ ?_)); (all_goals (try ((with_reducible refine kin ?_); intro K1 hK1)))
        refine awp_cond (t := _) rfl (fun h => by cases h) (fun _ => ?_)
        refine ru22SPart2 (And.intro e1 (And.intro e4 e5)) ?_; (repeat' (with_reducible refine AndQ.mk ?_ ?_)); (all_goals (try ((with_reducible refine kin ?_); intro K1 hK1)))
        refine ⟨.v (.bool false), rfl, True.intro, hK1 _ ?_⟩; clear hK1 K1
        refine ru22SPart2 (And.intro e1 (And.intro e4 e5)) ?_; (repeat' (with_reducible refine AndQ.mk ?_ ?_)); (all_goals (try ((with_reducible refine kin ?_); intro K1 hK1)))
        refine awp_cond (t := _) rfl (fun h => by cases h) (fun _ => ?_)
        refine ru22SPart2 (And.intro e1 (And.intro e4 e5)) ?_; (repeat' (with_reducible refine AndQ.mk ?_ ?_)); (all_goals (try ((with_reducible refine kin ?_); intro K1 hK1)))
        refine (g_shares shares (by omega) _).mono ?_; rintro _ hz ⟨rfl, hh⟩; refine hK1 _ ?_; clear hK1 K1; rw [hh]; clear hh hz
        refine ru22SPart2 trivial ?_; (repeat' (with_reducible refine AndQ.mk ?_ ?_)); (all_goals (try ((with_reducible refine kin ?_); intro K1 hK1)))
        refine awp_cond (t := _) rfl (fun h6 => ?_) (fun h6 => ?_)
        · refine ru22SPart2 trivial ?_; (repeat' (with_reducible refine AndQ.mk ?_ ?_)); (all_goals (try ((with_reducible refine kin ?_); intro K1 hK1)))
          refine rtG Tryd.results22 ?_
          exact ⟨_, _, Weak.refl _, Hp.le.refl _, by rw [partF_eq, h1, hF, e1, e5, h6]; rfl, rfl⟩
        · refine ru22SPart2 trivial ?_; (repeat' (with_reducible refine AndQ.mk ?_ ?_)); (all_goals (try ((with_reducible refine kin ?_); intro K1 hK1)))
          exact ⟨by rw [partF_eq, h1, hF, e1, e5, h6]; rfl, rfl⟩
      · have hF : formB kind item long many kids.length shares.length = false := by clear hK1 K1; clear b1 b2 b3 b4 b5 b6 b7 b8 c; simp only [formB, bne, Bool.not_eq_true', Bool.not_eq_false'] at *; simp only [*, Bool.not_true, Bool.not_false, Bool.false_and, Bool.true_and, Bool.and_false, Bool.and_true, Bool.false_or, Bool.true_or, Bool.or_true, Bool.or_false]
        refine ⟨.v (.bool false), rfl, True.intro, hK1 _ ?_⟩; clear hK1 K1
        refine ru22SPart2 (And.intro e1 (And.intro e4 e5)) ?_; (repeat' (with_reducible refine AndQ.mk ?_ ?_)); (all_goals (try ((with_reducible refine kin ?_); intro K1 hK1)))
        refine awp_cond (t := _) rfl (fun h => by cases h) (fun _ => ?_)
        refine ru22SPart2 (And.intro e1 (And.intro e4 e5)) ?_; (repeat' (with_reducible refine AndQ.mk ?_ ?_)); (all_goals (try ((with_reducible refine kin ?_); intro K1 hK1)))
        refine ⟨.v (.bool false), rfl, True.intro, hK1 _ ?_⟩; clear hK1 K1
        refine ru22SPart2 (And.intro e1 (And.intro e4 e5)) ?_; (repeat' (with_reducible refine AndQ.mk ?_ ?_)); (all_goals (try ((with_reducible refine kin ?_); intro K1 hK1)))
        refine awp_cond (t := _) rfl (fun h => by cases h) (fun _ => ?_)
        refine ru22SPart2 (And.intro e1 (And.intro e4 e5)) ?_; (repeat' (with_reducible refine AndQ.mk ?_ ?_)); (all_goals (try ((with_reducible refine kin ?_); intro K1 hK1)))
        refine (a_in2 many 1 100 _).mono ?_; rintro _ hz ⟨rfl, hh⟩; refine ⟨rfl, hK1 _ ?_⟩; clear hK1 K1; rw [hh]; clear hh hz
        refine ru22SPart2 (And.intro e1 (And.intro e4 e5)) ?_; (repeat' (with_reducible refine AndQ.mk ?_ ?_)); (all_goals (try ((with_reducible refine kin ?_); intro K1 hK1)))
        refine awp_cond (t := _) rfl (fun h4 => ?_) (fun h4 => ?_)
        · refine ru22SPart2 (And.intro e1 (And.intro e4 e5)) ?_; (repeat' (with_reducible refine AndQ.mk ?_ ?_)); (all_goals (try ((with_reducible refine kin ?_); intro K1 hK1)))
          refine rtG Tryd.results22 ?_
          exact ⟨_, _, Weak.refl _, Hp.le.refl _, by rw [partF_eq, h1, hF, e1, e5, h4]; rfl, rfl⟩
        · refine ru22SPart2 (And.intro e1 (And.intro e4 e5)) ?_; (repeat' (with_reducible refine AndQ.mk ?_ ?_)); (all_goals (try ((with_reducible refine kin ?_); intro K1 hK1)))
          refine (g_shares shares (by omega) _).mono ?_; rintro _ hz ⟨rfl, hh⟩; refine hK1 _ ?_; clear hK1 K1; rw [hh]; clear hh hz
          refine ru22SPart2 trivial ?_; (repeat' (with_reducible refine AndQ.mk ?_ ?_)); (all_goals (try ((with_reducible refine kin ?_); intro K1 hK1)))
          refine awp_cond (t := _) rfl (fun h6 => ?_) (fun h6 => ?_)
          · refine ru22SPart2 trivial ?_; (repeat' (with_reducible refine AndQ.mk ?_ ?_)); (all_goals (try ((with_reducible refine kin ?_); intro K1 hK1)))
            refine rtG Tryd.results22 ?_
            exact ⟨_, _, Weak.refl _, Hp.le.refl _, by rw [partF_eq, h1, hF, e1, e5, h4, h6]; rfl, rfl⟩
          · refine ru22SPart2 trivial ?_; (repeat' (with_reducible refine AndQ.mk ?_ ?_)); (all_goals (try ((with_reducible refine kin ?_); intro K1 hK1)))
            exact ⟨by rw [partF_eq, h1, hF, e1, e5, h4, h6]; rfl, rfl⟩
      · have hF : formB kind item long many kids.length shares.length = false := by clear hK1 K1; clear b1 b2 b3 b4 b5 b6 b7 b8 c; simp only [formB, bne, Bool.not_eq_true', Bool.not_eq_false'] at *; simp only [*, Bool.not_true, Bool.not_false, Bool.false_and, Bool.true_and, Bool.and_false, Bool.and_true, Bool.false_or, Bool.true_or, Bool.or_true, Bool.or_false]
        refine ⟨.v (.bool false), rfl, True.intro, hK1 _ ?_⟩; clear hK1 K1
        refine ru22SPart2 (And.intro e1 (And.intro e4 e5)) ?_; (repeat' (with_reducible refine AndQ.mk ?_ ?_)); (all_goals (try ((with_reducible refine kin ?_); intro K1 hK1)))
        refine awp_cond (t := _) rfl (fun h => by cases h) (fun _ => ?_)
        refine ru22SPart2 (And.intro e1 (And.intro e4 e5)) ?_; (repeat' (with_reducible refine AndQ.mk ?_ ?_)); (all_goals (try ((with_reducible refine kin ?_); intro K1 hK1)))
        refine ⟨.v (.bool false), rfl, True.intro, hK1 _ ?_⟩; clear hK1 K1
        refine ru22SPart2 (And.intro e1 (And.intro e4 e5)) ?_; (repeat' (with_reducible refine AndQ.mk ?_ ?_)); (all_goals (try ((with_reducible refine kin ?_); intro K1 hK1)))
        refine awp_cond (t := _) rfl (fun h => by cases h) (fun _ => ?_)
        refine ru22SPart2 (And.intro e1 (And.intro e4 e5)) ?_; (repeat' (with_reducible refine AndQ.mk ?_ ?_)); (all_goals (try ((with_reducible refine kin ?_); intro K1 hK1)))
        refine ⟨.v (.bool false), rfl, True.intro, hK1 _ ?_⟩; clear hK1 K1
        refine ru22SPart2 (And.intro e1 (And.intro e4 e5)) ?_; (repeat' (with_reducible refine AndQ.mk ?_ ?_)); (all_goals (try ((with_reducible refine kin ?_); intro K1 hK1)))
        refine awp_cond (t := _) rfl (fun h => by cases h) (fun _ => ?_)
        refine ru22SPart2 (And.intro e1 (And.intro e4 e5)) ?_; (repeat' (with_reducible refine AndQ.mk ?_ ?_)); (all_goals (try ((with_reducible refine kin ?_); intro K1 hK1)))
        refine (g_shares shares (by omega) _).mono ?_; rintro _ hz ⟨rfl, hh⟩; refine hK1 _ ?_; clear hK1 K1; rw [hh]; clear hh hz
        refine ru22SPart2 trivial ?_; (repeat' (with_reducible refine AndQ.mk ?_ ?_)); (all_goals (try ((with_reducible refine kin ?_); intro K1 hK1)))
        refine awp_cond (t := _) rfl (fun h6 => ?_) (fun h6 => ?_)
        · refine ru22SPart2 trivial ?_; (repeat' (with_reducible refine AndQ.mk ?_ ?_)); (all_goals (try ((with_reducible refine kin ?_); intro K1 hK1)))
          refine rtG Tryd.results22 ?_
          exact ⟨_, _, Weak.refl _, Hp.le.refl _, by rw [partF_eq, h1, hF, e1, e5, h6]; rfl, rfl⟩
        · refine ru22SPart2 trivial ?_; (repeat' (with_reducible refine AndQ.mk ?_ ?_)); (all_goals (try ((with_reducible refine kin ?_); intro K1 hK1)))
          exact ⟨by rw [partF_eq, h1, hF, e1, e5, h6]; rfl, rfl⟩
    · rintro _ ⟨hpf, rfl⟩
      refine ru22SPart2 trivial ?_; (repeat' (with_reducible refine AndQ.mk ?_ ?_)); (all_goals (try ((with_reducible refine kin ?_); intro K1 hK1)))
      refine awp_loopC (rl false [108, 3, 9]) 0 (fun g s => ∃ j : Nat, g + j = kids.length ∧ firstNZ ((kids.map partF).take j) = 0 ∧
        s = ⟨((jnk 108 ((.row 6 (kids.map encL) none) :: (.v (.int .i64 kids.length)) :: (.v (.int .i64 j)) :: (jnk 9 [])))), [], h0⟩) kids.length ⟨0, by omega, rfl, rfl⟩ ?_
      rintro g _ ⟨j, hj, hnz, rfl⟩
      refine ru22SPart2 trivial ?_; (repeat' (with_reducible refine AndQ.mk ?_ ?_)); (all_goals (try ((with_reducible refine kin ?_); intro K1 hK1)))
      refine awp_cond (t := _) rfl (fun h6 => ?_) (fun h6 => ?_)
      · simp only [decide_eq_true_eq] at h6
        have hjk : j < kids.length := by omega
        have hg : (kids.map encL).getD j [] = encL (kids.getD j default) := getD_enc encL kids j default hjk
        have hmem := getD_mem' kids j default hjk
        have hbt := b8 _ hmem
        have hgp : (kids.map partF)[j]? = some (partF (kids.getD j default)) := by rw [List.getElem?_map, List.getElem?_eq_getElem hjk, List.getD_eq_getElem?_getD, List.getElem?_eq_getElem hjk]; rfl
        have e1 : (kids.map partF).take (j + 1) = (kids.map partF).take j ++ [partF (kids.getD j default)] := by rw [List.take_succ, hgp]; rfl
        generalize kids.getD j default = t2 at hg hmem hbt hgp e1
        have hlen := encL_len t2
        have htk : List.take 6 (encL t2) = encL t2 := List.take_of_length_le (Nat.le_of_eq hlen)
        have hdr : List.drop 6 (encL t2) = [] := List.drop_of_length_le (Nat.le_of_eq hlen)
        refine ru22SPart2 (And.intro @Int.toNat_natCast (And.intro hg (And.intro hlen (And.intro htk hdr)))) ?_; (repeat' (with_reducible refine AndQ.mk ?_ ?_)); (all_goals (try ((with_reducible refine kin ?_); intro K1 hK1)))
        refine (g_part22 d t2 h0 hbt).mono ?_; rintro _ hz ⟨rfl, hh⟩; refine hK1 _ ?_; clear hK1 K1; rw [hh]; clear hh hz
        refine ru22SPart2 trivial ?_; (repeat' (with_reducible refine AndQ.mk ?_ ?_)); (all_goals (try ((with_reducible refine kin ?_); intro K1 hK1)))
        refine awp_cond (t := _) rfl (fun h7 => ?_) (fun h7 => ?_)
        · refine ru22SPart2 trivial ?_; (repeat' (with_reducible refine AndQ.mk ?_ ?_)); (all_goals (try ((with_reducible refine kin ?_); intro K1 hK1)))
          refine rtG Tryd.results22 ?_
          exact ⟨_, _, Weak.refl _, Hp.le.refl _, by rw [hpf, firstNZ_pre _ j _ hgp (by simpa using h7) hnz], rfl⟩
        · refine ru22SPart2 trivial ?_; (repeat' (with_reducible refine AndQ.mk ?_ ?_)); (all_goals (try ((with_reducible refine kin ?_); intro K1 hK1)))
          refine ⟨g - 1, by omega, j + 1, by omega, ?_, rfl⟩
          rw [e1, firstNZ_app, if_pos hnz]
          simpa using h7
      · simp only [decide_eq_false_iff_not] at h6
        have hjk : j = kids.length := by omega
        rw [List.take_of_length_le (by simp; omega)] at hnz
        refine ru22SPart2 trivial ?_; (repeat' (with_reducible refine AndQ.mk ?_ ?_)); (all_goals (try ((with_reducible refine kin ?_); intro K1 hK1)))
        refine rtG Tryd.results22 ?_
        exact ⟨_, _, Weak.refl _, Hp.le.refl _, by rw [hpf, hnz], rfl⟩
end Go.Proofs.YtoleejecmefogaaDoor
/- loop.parts.large: counts the parts. -/
namespace Go.Proofs.YtoleejecmefogaaDoor
open Go
set_option maxRecDepth 100000
set_option maxHeartbeats 8000000
def oMany (m : Int) : AO := .cells [.v (.int .i64 m)]
theorem sum_take_le (kids : List LT) (f : LT → Int) (hf : ∀ x ∈ kids, 0 ≤ f x) (j : Nat) : ((kids.take j).map f).sum ≤ (kids.map f).sum := by
  have e : (kids.map f).sum = ((kids.take j).map f).sum + ((kids.drop j).map f).sum := by rw [← List.sum_append, ← List.map_append, List.take_append_drop]
  have : ∀ l : List LT, (∀ x ∈ l, 0 ≤ f x) → 0 ≤ (l.map f).sum := fun l => by
    induction l with
    | nil => simp
    | cons x l ih => intro h; have h1 := h x (by simp); have h2 := ih fun y hy => h y (by simp [hy]); simp only [List.map_cons, List.sum_cons]; omega
  have := this (kids.drop j) fun x hx => hf x (List.mem_of_mem_drop hx)
  omega
theorem max_take (kids : List LT) (f : LT → Int) : ∀ (j : Nat) (_ : j < kids.length), f (kids.getD j default) ≤ (kids.map f).foldl max 0 := by
  have key : ∀ (l : List LT) (a : Int) (j : Nat), j < l.length → a ≤ (l.map f).foldl max a ∧ f (l.getD j default) ≤ (l.map f).foldl max a := by
    intro l
    induction l with
    | nil => intro a j h; simp at h
    | cons x l ih =>
      intro a j h
      simp only [List.map_cons, List.foldl_cons]
      have mono : ∀ (l : List Int) (a : Int), a ≤ l.foldl max a := fun l => by
        induction l with
        | nil => intro a; exact Int.le_refl _
        | cons y l ih => intro a; have := ih (max a y); simp only [List.foldl_cons]; omega
      cases j with
      | zero => have := mono (l.map f) (max a (f x)); simp only [List.getD_cons_zero]; omega
      | succ j => have := ih (max a (f x)) j (by simpa using h); simp only [List.getD_cons_succ]; omega
  exact fun j hj => (key kids 0 j hj).2
def LargeR (t : LT) (deep m : Int) (h : Hp) (i : Nat) (r : AV) (h' : Hp) : Prop :=
  ∃ (b : Bool) (m' : Int), r = .v (.bool b) ∧ h' = { h with H := upd h.H i (some (oMany m')) } ∧ (b = true → 200 < m + manyF t ∨ 12 < deep + deepF t - 1) ∧ (b = false → m + manyF t ≤ 200 ∧ deep + deepF t - 1 ≤ 12 ∧ m' = m + manyF t)
theorem g_large : ∀ (d : Nat) (t : LT) (h : Hp) (i : Nat) (m deep : Int), LC d t → d ≤ 28 → (0 ≤ m ∧ m ≤ 200) → (0 ≤ deep ∧ deep ≤ 1000) → h.H i = some (oMany m) →
    ACalls Tryd.prog 23 [.ptr i 0, .agg (encL t), .v (.int .i64 deep)] h (LargeR t deep m h i)
  | 0, _, _, _, _, _, hb, _, _, _, _ => hb.elim
  | d + 1, t, h, i, m, deep, hb, hd, hm, hdp, hi => by
    cases t with
    | mk kind item long many kids shares =>
    obtain ⟨b1, b2, b3, b4, b5, b6, b7, b8⟩ := id hb
    have hi' : h.H i = some (.cells [.v (.int .i64 m)]) := hi
    have hpos : ∀ x ∈ kids, 1 ≤ manyF x ∧ 1 ≤ deepF x := fun x hx => by have := size_bd d x (b8 x hx); omega
    refine acalls_of tyok Tryd.func23 rfl (by kernel_rfl) fun c => ?_; simp only [Tryd.ntmps23, List.length_cons, List.length_nil, Nat.reduceAdd, Nat.reduceSub, jnk_rep, List.cons_append, List.nil_append]
    rw [encL_eq]
    refine ruG (mdL []) hi' ?_; (repeat' (with_reducible refine AndQ.mk ?_ ?_)); (all_goals (try ((with_reducible refine kin ?_); intro K1 hK1)))
    refine awp_cond (t := _) rfl (fun h1 => ?_) (fun h1 => ?_)
    · refine ruG (mdL []) hi' ?_; (repeat' (with_reducible refine AndQ.mk ?_ ?_)); (all_goals (try ((with_reducible refine kin ?_); intro K1 hK1)))
      refine rtG Tryd.results23 ?_
      simp only [Bool.or_eq_true, decide_eq_true_eq] at h1
      have hs := sum_bd manyF 0 (Int.le_refl _) ([] : List LT) (by simp)
      have hd1 := size_bd (d + 1) _ hb
      refine ⟨_, _, Weak.refl _, Hp.le.refl _, true, m + 1, rfl, rfl, fun _ => ?_, fun h => by cases h⟩
      rw [manyF_eq, deepF_eq] at *
      have h2 := sum_take_le kids manyF (fun x hx => by have := hpos x hx; omega) 0
      have h3 := max_bd deepF 100 kids 0 (by omega) fun x hx => by have := size_bd d x (b8 x hx); omega
      simp only [List.take_zero, List.map_nil, List.sum_nil] at h2
      omega
    · refine ruG (mdL []) hi' ?_; (repeat' (with_reducible refine AndQ.mk ?_ ?_)); (all_goals (try ((with_reducible refine kin ?_); intro K1 hK1)))
      simp only [Bool.or_eq_false_iff, decide_eq_false_iff_not] at h1
      refine (g_contains41 42 [.ref [.ptr i 0] 0, .ref [.v (.int .i64 deep)] 0] (kids.map encL) (fun j hj => ?_) (by simp; omega)
        (fun j h' => h' = { h with H := upd h.H i (some (oMany (m + 1 + ((kids.take j).map manyF).sum))) } ∧ m + 1 + ((kids.take j).map manyF).sum ≤ 200 ∧ (((kids.take j).map deepF).foldl max 0 + deep ≤ 12))
        (fun j h' => ∃ m', h' = { h with H := upd h.H i (some (oMany m')) } ∧ (200 < m + 1 + ((kids.take (j + 1)).map manyF).sum ∨ 12 < deep + deepF (kids.getD j default)))
        _ ⟨by simp; rfl, by simp; omega, by simp; omega⟩ ?_).mono ?_
      · have hj' : j < kids.length := by simpa using hj
        rw [show (kids.map encL).getD j [] = encL (kids.getD j default) from getD_enc encL kids j default hj']
        exact encL_len _
      · rintro j h' hj ⟨rfl, hs1, hs2⟩
        have hjk : j < kids.length := by simpa using hj
        rw [show (kids.map encL).getD j [] = encL (kids.getD j default) from getD_enc encL kids j default hjk]
        have hmem := getD_mem' kids j default hjk
        have e1 := take_succ_map manyF kids j hjk
        have e2 := take_succ_map deepF kids j hjk
        have hbt := b8 _ hmem
        have hp2 := hpos _ hmem
        have h0 := sum_bd manyF 1000000000000000000 (by omega) (kids.take j) fun x hx => by
          have := (size_bd d x (b8 x (List.mem_of_mem_take hx))).1
          have h4 : (4 : Int) ^ d ≤ 4 ^ 27 := by
            have := Nat.pow_le_pow_right (n := 4) (by decide) (show d ≤ 27 by omega)
            exact_mod_cast this
          omega
        rw [e1, List.sum_append]
        have hl42 : ∀ t2, LC d t2 → ACalls Tryd.prog 42 [aggOf (encL t2), .ref [.ptr i 0] 0, .ref [.v (.int .i64 deep)] 0] { h with H := upd h.H i (some (oMany (m + 1 + ((kids.take j).map manyF).sum))) } (LargeR t2 (deep + 1) (m + 1 + ((kids.take j).map manyF).sum) h i) := fun t2 ht2 => by
          have hlen := encL_len t2
          have htk : List.take 6 (encL t2) = encL t2 := List.take_of_length_le (Nat.le_of_eq hlen)
          unfold aggOf
          refine acalls_of tyok Tryd.func42 rfl (by kernel_rfl) fun c => ?_; simp only [Tryd.ntmps42, List.length_cons, List.length_nil, Nat.reduceAdd, Nat.reduceSub, jnk_rep, List.cons_append, List.nil_append]
          refine ruG (mdL []) (And.intro hlen htk) ?_; (repeat' (with_reducible refine AndQ.mk ?_ ?_)); (all_goals (try ((with_reducible refine kin ?_); intro K1 hK1)))
          refine (g_large d t2 _ i _ (deep + 1) ht2 (by omega) (by omega) (by omega) (upd_same _ _ _)).mono ?_
          rintro _ _ ⟨b, m', rfl, rfl, hb1, hb2⟩
          refine hK1 _ ?_; clear hK1 K1
          refine ruG (mdL []) trivial ?_; (repeat' (with_reducible refine AndQ.mk ?_ ?_)); (all_goals (try ((with_reducible refine kin ?_); intro K1 hK1)))
          refine rtG Tryd.results42 ?_
          exact ⟨_, _, Weak.refl _, Hp.le.refl _, b, m', rfl, by simp only [upd_upd], hb1, hb2⟩
        refine (hl42 _ hbt).mono ?_
        rintro _ _ ⟨b, m', rfl, rfl, hb1, hb2⟩
        refine ⟨b, rfl, fun hb => ⟨m', rfl, ?_⟩, fun hb => ?_⟩
        · have := hb1 hb
          simp only [List.sum_cons, List.sum_nil]
          omega
        · obtain ⟨h6, h7, rfl⟩ := hb2 hb
          rw [e2, List.foldl_append]
          simp only [List.sum_cons, List.sum_nil, List.foldl_cons, List.foldl_nil, Int.add_zero]
          exact ⟨by rw [Int.add_assoc (m + 1)], by omega, by omega⟩
      · rintro _ h' (⟨j, hj, rfl, m', rfl, hP⟩ | ⟨rfl, rfl, hs1, hs2⟩)
        · have hjk : j < kids.length := by simpa using hj
          refine hK1 _ ?_; clear hK1 K1
          refine ruG (mdL []) trivial ?_; (repeat' (with_reducible refine AndQ.mk ?_ ?_)); (all_goals (try ((with_reducible refine kin ?_); intro K1 hK1)))
          refine rtG Tryd.results23 ?_
          refine ⟨_, _, Weak.refl _, Hp.le.refl _, true, m', rfl, rfl, fun _ => ?_, fun h => by cases h⟩
          rw [manyF_eq, deepF_eq]
          have h2 := sum_take_le kids manyF (fun x hx => by have := hpos x hx; omega) (j + 1)
          have h3 := max_take kids deepF j hjk
          omega
        · refine hK1 _ ?_; clear hK1 K1
          refine ruG (mdL []) trivial ?_; (repeat' (with_reducible refine AndQ.mk ?_ ?_)); (all_goals (try ((with_reducible refine kin ?_); intro K1 hK1)))
          refine rtG Tryd.results23 ?_
          simp only [List.length_map, List.take_length] at hs1 hs2 ⊢
          refine ⟨_, _, Weak.refl _, Hp.le.refl _, false, _, rfl, rfl, fun h => (by cases h), fun _ => ?_⟩
          rw [manyF_eq, deepF_eq]
          omega
end Go.Proofs.YtoleejecmefogaaDoor
/- signref1.LoopFault and loop.CheckLoop: the same. -/
namespace Go.Proofs.YtoleejecmefogaaDoor
open Go
set_option maxRecDepth 100000
set_option maxHeartbeats 8000000
def faultF (t : LT) : Int := if 200 < manyF t ∨ 12 < deepF t then 2 else partF t
theorem g_fault6 (d : Nat) (t : LT) (h0 : Hp) (hb : LC d t) (hd : d ≤ 28) : ACalls Tryd.prog 6 [.agg (encL t)] h0 (fun r h' => r = .v (.int .i64 (faultF t)) ∧ h' = h0) := by
  have hlen := encL_len t
  have htk : List.take 6 (encL t) = encL t := List.take_of_length_le (Nat.le_of_eq hlen)
  refine acalls_of tyok Tryd.func6 rfl (by kernel_rfl) fun c => ?_; simp only [Tryd.ntmps6, List.length_cons, List.length_nil, Nat.reduceAdd, Nat.reduceSub, jnk_rep, List.cons_append, List.nil_append]
  refine ruG (mdL []) (And.intro hlen htk) ?_; (repeat' (with_reducible refine AndQ.mk ?_ ?_)); (all_goals (try ((with_reducible refine kin ?_); intro K1 hK1)))
  refine (g_size d t h0 hb hd).mono ?_; rintro _ hz ⟨rfl, hh⟩; refine hK1 _ ?_; clear hK1 K1; rw [hh]; clear hh hz
  refine ruG (mdL []) (And.intro hlen htk) ?_; (repeat' (with_reducible refine AndQ.mk ?_ ?_)); (all_goals (try ((with_reducible refine kin ?_); intro K1 hK1)))
  refine awp_cond (t := _) rfl (fun h1 => ?_) (fun h1 => ?_)
  · refine ruG (mdL []) (And.intro hlen htk) ?_; (repeat' (with_reducible refine AndQ.mk ?_ ?_)); (all_goals (try ((with_reducible refine kin ?_); intro K1 hK1)))
    refine rtG Tryd.results6 ?_
    exact ⟨_, _, Weak.refl _, Hp.le.refl _, by rw [faultF, if_pos (by simpa using h1)], rfl⟩
  · refine ruG (mdL []) (And.intro hlen htk) ?_; (repeat' (with_reducible refine AndQ.mk ?_ ?_)); (all_goals (try ((with_reducible refine kin ?_); intro K1 hK1)))
    refine (g_part22 d t h0 hb).mono ?_; rintro _ hz ⟨rfl, hh⟩; refine hK1 _ ?_; clear hK1 K1; rw [hh]; clear hh hz
    refine ruG (mdL []) trivial ?_; (repeat' (with_reducible refine AndQ.mk ?_ ?_)); (all_goals (try ((with_reducible refine kin ?_); intro K1 hK1)))
    refine rtG Tryd.results6 ?_
    exact ⟨_, _, Weak.refl _, Hp.le.refl _, by rw [faultF, if_neg (by simp at h1; omega)], rfl⟩
theorem g_check7 (d : Nat) (t : LT) (h0 : Hp) (hb : LC d t) (hd : d ≤ 28) : ACalls Tryd.prog 7 [.agg (encL t)] h0 (fun r h' => r = .v (.int .i64 (faultF t)) ∧ h' = h0) := by
  have hlen := encL_len t
  have htk : List.take 6 (encL t) = encL t := List.take_of_length_le (Nat.le_of_eq hlen)
  have hz := size_bd d t hb
  refine acalls_of tyok Tryd.func7 rfl (by kernel_rfl) fun c => ?_; simp only [Tryd.ntmps7, List.length_cons, List.length_nil, Nat.reduceAdd, Nat.reduceSub, jnk_rep, List.cons_append, List.nil_append]
  refine ruG (mdL [(3, 2)]) (And.intro hlen htk) ?_; (repeat' (with_reducible refine AndQ.mk ?_ ?_)); (all_goals (try ((with_reducible refine kin ?_); intro K1 hK1)))
  intro i hi
  and_intros <;> first | (refine hK1 _ ?_; clear hK1 K1) | exact .inl trivial | exact True.intro | omega
  refine ruG (mdL [(3, 2)]) (And.intro hlen htk) ?_; (repeat' (with_reducible refine AndQ.mk ?_ ?_)); (all_goals (try ((with_reducible refine kin ?_); intro K1 hK1)))
  refine (g_large d t _ i 0 1 hb hd (by omega) (by omega) (upd_same _ _ _)).mono ?_
  rintro _ _ ⟨b, m', rfl, rfl, hb1, hb2⟩
  refine hK1 _ ?_; clear hK1 K1
  refine ruG (mdL [(3, 2)]) (And.intro hlen htk) ?_; (repeat' (with_reducible refine AndQ.mk ?_ ?_)); (all_goals (try ((with_reducible refine kin ?_); intro K1 hK1)))
  have hle : Hp.le h0 { H := upd h0.H i (some (oMany m')), T := h0.T } := ⟨fun j => by
    by_cases hj : j = i
    · rw [hj]; exact .inl hi
    · exact .inr (upd_other _ _ hj).symm, fun _ => .inr rfl⟩
  refine awp_cond (t := _) rfl (fun h1 => ?_) (fun h1 => ?_)
  · refine ruG (mdL [(3, 2)]) (And.intro hlen htk) ?_; (repeat' (with_reducible refine AndQ.mk ?_ ?_)); (all_goals (try ((with_reducible refine kin ?_); intro K1 hK1)))
    refine rtG Tryd.results7 ?_
    exact ⟨_, h0, Weak.refl _, by simpa using hle, by rw [faultF, if_pos (by have := hb1 h1; omega)], rfl⟩
  · refine ruG (mdL [(3, 2)]) (And.intro hlen htk) ?_; (repeat' (with_reducible refine AndQ.mk ?_ ?_)); (all_goals (try ((with_reducible refine kin ?_); intro K1 hK1)))
    refine (g_part24 d t _ hb).mono ?_; rintro _ hz ⟨rfl, hh⟩; refine hK1 _ ?_; clear hK1 K1; rw [hh]; clear hh hz
    refine ruG (mdL [(3, 2)]) trivial ?_; (repeat' (with_reducible refine AndQ.mk ?_ ?_)); (all_goals (try ((with_reducible refine kin ?_); intro K1 hK1)))
    refine rtG Tryd.results7 ?_
    exact ⟨_, h0, Weak.refl _, by simpa using hle, by rw [faultF, if_neg (by have := hb2 h1; omega)], rfl⟩
end Go.Proofs.YtoleejecmefogaaDoor
/- loop.Passes and signref1.PassesOf. -/
namespace Go.Proofs.YtoleejecmefogaaDoor
open Go
set_option maxRecDepth 100000
set_option maxHeartbeats 8000000
theorem firstNZ_all : ∀ (l : List Int), firstNZ l = 0 → ∀ x ∈ l, x = 0
  | [], _, x, hx => by simp at hx
  | y :: l, h, x, hx => by
    simp only [firstNZ] at h
    split at h
    · rename_i h0
      rcases List.mem_cons.1 hx with rfl | hx
      · exact h0
      · exact firstNZ_all l h x hx
    · rename_i h0; exact absurd h h0
theorem vl_of : ∀ (d : Nat) (t : LT), LC d t → partF t = 0 → VL d t
  | 0, _, h, _ => h.elim
  | d + 1, .mk kind item long many kids shares, hb, hp => by
    obtain ⟨b1, b2, b3, b4, b5, b6, b7, b8⟩ := hb
    rw [partF_eq] at hp
    by_cases h1 : outB kind 1 5
    · rw [if_pos h1] at hp; omega
    rw [if_neg h1] at hp
    by_cases h2 : formB kind item long many kids.length shares.length
    · rw [if_pos h2] at hp; omega
    rw [if_neg h2] at hp
    by_cases h3 : (kind == 1 && !keyB item) = true
    · rw [if_pos h3] at hp; omega
    rw [if_neg h3] at hp
    by_cases h4 : (kind == 1 && outB long 1 3600000) = true
    · rw [if_pos h4] at hp; omega
    rw [if_neg h4] at hp
    by_cases h5 : (kind == 5 && outB many 1 100) = true
    · rw [if_pos h5] at hp; omega
    rw [if_neg h5] at hp
    by_cases h6 : shares.any (fun n => outB n 1 1000)
    · rw [if_pos h6] at hp; omega
    rw [if_neg h6] at hp
    have hk := firstNZ_all _ hp
    simp only [outB, Bool.or_eq_true, decide_eq_true_eq, not_or, Int.not_lt] at h1
    simp only [formB, Bool.or_eq_true, Bool.and_eq_true, beq_iff_eq, bne_iff_ne, ne_eq, not_or, not_and, Decidable.not_not] at h2
    simp only [outB, Bool.and_eq_true, beq_iff_eq, Bool.or_eq_true, decide_eq_true_eq, not_and, not_or, Int.not_lt] at h5
    obtain ⟨⟨⟨⟨⟨⟨g1, g2⟩, g3⟩, g4⟩, g5⟩, g6⟩, g7⟩ := h2
    refine ⟨by omega, fun h => List.eq_nil_of_length_eq_zero (by have := g1 h; omega), fun h hn => by subst hn; exact g3 h rfl, fun h => ⟨by have := g2 h; omega, (h5 h).1, (h5 h).2⟩, fun h => by have := g4 h; omega, fun n hn => ?_, ⟨b5, b6⟩, fun k hkm => vl_of d k (b8 k hkm) (hk _ (List.mem_map.2 ⟨k, hkm, rfl⟩))⟩
    have h7 : outB n 1 1000 = false := by
      cases e : outB n 1 1000 with
      | false => rfl
      | true => exact absurd (List.any_eq_true.2 ⟨n, hn, e⟩) h6
    simp only [outB, Bool.or_eq_false_iff, decide_eq_false_iff_not, Int.not_lt] at h7
    exact h7
theorem psb0 : ∀ (d : Nat) (t : LT), PSB d t (ps0 t) 0
  | 0, _ => trivial
  | d + 1, .mk kind item long many kids shares => by
    rw [ps0_eq]
    refine ⟨by omega, fun x hx => ?_, fun j hj => ?_⟩
    · obtain ⟨_, _, rfl⟩ := List.mem_map.1 hx; omega
    · have e : (kids.map ps0).getD j default = ps0 (kids.getD j default) := by
        rw [List.getD_eq_getElem?_getD, List.getD_eq_getElem?_getD, List.getElem?_map, List.getElem?_eq_getElem hj]; rfl
      rw [e]; exact psb0 d _
/-- So many passes. -/
def passesU (d : Nat) (t : LT) : Nat → PS × List (ByteArray × Int)
  | 0 => (ps0 t, [])
  | n + 1 => ((passU d t (passesU d t n).1).1, (passesU d t n).2 ++ (passU d t (passesU d t n).1).2)
theorem passesU_mono (d : Nat) (t : LT) : ∀ {m n : Nat}, m ≤ n → (passesU d t m).2.length ≤ (passesU d t n).2.length
  | m, 0, h => by obtain rfl : m = 0 := by omega
                  exact Nat.le_refl _
  | m, n + 1, h => by
    by_cases e : m = n + 1
    · rw [e]; exact Nat.le_refl _
    · have := passesU_mono d t (m := m) (n := n) (by omega)
      simp only [passesU, List.length_append]; omega
def wantX (d : Nat) (t : LT) (n : Nat) : AV := if (passesU d t n).2.length ≤ 5000 then .row 2 ((passesU d t n).2.map encStep) none else .row 2 [] none
def wantE (d : Nat) (t : LT) (n : Nat) : Int := if (passesU d t n).2.length ≤ 5000 then 0 else 2
theorem FrP.le {a : AT} {o k : Nat} {h h1 h2 : Hp} (f : FrP a o k h1 h2) (ha : ∀ i ∈ idsT a, h.H i = none) (hc : ∀ c ∈ toksT a, h.T c = none) (ho : h.H o = none) (hk : h.T k = none) (k1 : ∀ i, h.H i ≠ none → h1.H i = h.H i) (k2 : ∀ c, h.T c ≠ none → h1.T c = h.T c) : Hp.le h h2 :=
  ⟨fun i => by
    by_cases e : h.H i = none
    · exact .inl e
    · exact .inr ((f.1 i (fun hi => e (ha i hi)) (fun hi => e (by rw [hi]; exact ho))).trans (k1 i e)).symm, fun c => by
    by_cases e : h.T c = none
    · exact .inl e
    · exact .inr ((f.2 c (fun hi => e (hc c hi)) (fun hi => e (by rw [hi]; exact hk))).trans (k2 c e)).symm⟩
theorem g_passesOf (d : Nat) (t : LT) (many : Int) (h : Hp) (hv : VL d t) (hb : LC d t) (hm : 0 ≤ many ∧ many ≤ 5000) :
    ACalls Tryd.prog 11 [.agg (encL t), .v (.int .i64 many)] h (fun r _ => r = .tup [wantX d t many.toNat, .v (.int .i64 (wantE d t many.toNat))]) := by
  have hlen := encL_len t
  have htk : List.take 6 (encL t) = encL t := List.take_of_length_le (Nat.le_of_eq hlen)
  refine acalls_of tyok Tryd.func11 rfl (by kernel_rfl) fun c => ?_; simp only [Tryd.ntmps11, List.length_cons, List.length_nil, Nat.reduceAdd, Nat.reduceSub, jnk_rep, List.cons_append, List.nil_append]
  refine rrG (mdL [(6, 2)]) (And.intro hlen htk) ?_; (repeat' (with_reducible refine AndQ.mk ?_ ?_)); (all_goals (try ((with_reducible refine kin ?_); intro K1 hK1)))
  intro o ho
  refine hK1 _ ?_; clear hK1 K1
  refine vRem_nil ?_
  refine awp_ownPtr (cs := [.v (.slice none 0 0)]) o 0 2 (upd_same _ _ _) rfl (fun k hk => ?_)
  simp only [List.set_cons_zero, upd_upd]
  replace hk : h.T k = none := hk
  refine rrG (mdL [(6, 2)]) (And.intro hlen htk) ?_; (repeat' (with_reducible refine AndQ.mk ?_ ?_)); (all_goals (try ((with_reducible refine kin ?_); intro K1 hK1)))
  refine (g_newRunner d t _ hb).mono ?_
  rintro _ h1 ⟨a, rfl, hR, hS, hn1, hn2, hk1, hk2⟩
  refine hK1 _ ?_; clear hK1 K1
  have hoa : o ∉ idsT a := fun hx => by have := hn1 o hx; rw [show (_ : Hp).H o = _ from upd_same h.H o _] at this; cases this
  have hH1 : h1.H o = some (.cells [.row 2 [] (some k)]) := (hk1 o (by rw [show (_ : Hp).H o = _ from upd_same h.H o _]; simp)).trans (upd_same _ _ _)
  have hT1 : h1.T k = some (.tail 0) := (hk2 k (by rw [show (_ : Hp).T k = _ from upd_same h.T k _]; simp)).trans (upd_same _ _ _)
  have hO1 : OutAt h1 o k [] [] := ⟨hH1, hT1⟩
  refine rrG (mdL [(6, 2)]) trivial ?_; (repeat' (with_reducible refine AndQ.mk ?_ ?_)); (all_goals (try ((with_reducible refine kin ?_); intro K1 hK1)))
  refine awp_seq ?_
  refine ruG (mdL [(6, 2)]) trivial ?_; (repeat' (with_reducible refine AndQ.mk ?_ ?_)); (all_goals (try ((with_reducible refine kin ?_); intro K1 hK1)))
  refine awp_loopC (rl false [6, 2, 2, 2, 6]) 0 (fun g s => ∃ (j : Nat) (h2 : Hp), g + j = many.toNat ∧ RAt XR h2 d t a (passesU d t j).1 ∧ OutAt h2 o k [] (passesU d t j).2 ∧ PSB d t (passesU d t j).1 (passesU d t j).2.length ∧ (passesU d t j).2.length ≤ 5000 ∧
    s = ⟨((jnk 6 ((.ptr o 0) :: (.ptr a.id 0) :: AV.junk :: AV.junk :: ((.v (.int .i64 many)) :: (.v (.int .i64 j)) :: (jnk 6 []))))), [], h2⟩) many.toNat ⟨0, h1, by omega, hR, hO1, psb0 d t, by simp [passesU], rfl⟩ ?_
  rintro g _ ⟨j, h2, hj, hR2, hO2, hB2, hl2, rfl⟩
  refine ruG (mdL [(6, 2)]) trivial ?_; (repeat' (with_reducible refine AndQ.mk ?_ ?_)); (all_goals (try ((with_reducible refine kin ?_); intro K1 hK1)))
  refine awp_cond (t := _) rfl (fun h3 => ?_) (fun h3 => ?_)
  · simp only [decide_eq_true_eq] at h3
    have hjm : j + 1 ≤ many.toNat := by omega
    refine ruG (mdL [(6, 2)]) trivial ?_; (repeat' (with_reducible refine AndQ.mk ?_ ?_)); (all_goals (try ((with_reducible refine kin ?_); intro K1 hK1)))
    refine (g_passR d t a _ h2 o k _ hv hR2 hS hB2 hO2 hoa hl2).mono ?_
    intro r h4 hres
    unfold PRes at hres
    have hpo := passU_ok d t (passesU d t j).1 (passesU d t j).2.length hv hR2.fits (by omega) hB2
    have e5 : (passesU d t (j + 1)).2.length = (passesU d t j).2.length + (passU d t (passesU d t j).1).2.length := by simp only [passesU, List.length_append]
    split at hres
    · rename_i hle
      obtain ⟨rfl, hR4, hO4, _⟩ := hres
      refine hK1 _ ?_; clear hK1 K1
      refine ruG (mdL [(6, 2)]) trivial ?_; (repeat' (with_reducible refine AndQ.mk ?_ ?_)); (all_goals (try ((with_reducible refine kin ?_); intro K1 hK1)))
      refine awp_cond (t := _) rfl (fun h => by cases h) (fun _ => ?_)
      refine ruG (mdL [(6, 2)]) trivial ?_; (repeat' (with_reducible refine AndQ.mk ?_ ?_)); (all_goals (try ((with_reducible refine kin ?_); intro K1 hK1)))
      exact ⟨g - 1, by omega, j + 1, h4, by omega, hR4, hO4, by rw [e5]; exact_mod_cast hpo.2.1, by omega, rfl⟩
    · rename_i hle
      subst hres
      refine hK1 _ ?_; clear hK1 K1
      refine ruG (mdL [(6, 2)]) trivial ?_; (repeat' (with_reducible refine AndQ.mk ?_ ?_)); (all_goals (try ((with_reducible refine kin ?_); intro K1 hK1)))
      refine awp_cond (t := _) rfl (fun _ => ?_) (fun h => by cases h)
      refine ruG (mdL [(6, 2)]) trivial ?_; (repeat' (with_reducible refine AndQ.mk ?_ ?_)); (all_goals (try ((with_reducible refine kin ?_); intro K1 hK1)))
      refine rtG Tryd.results11 ?_
      have hmo := passesU_mono d t hjm
      refine ⟨_, _, Weak.tup1 (Weak.nil 2 0 0 ⟨rfl, rfl⟩) (Weak.refl _), Hp.le.refl _, ?_⟩
      rw [wantX, wantE, if_neg (by omega), if_neg (by omega)]
  · simp only [decide_eq_false_iff_not] at h3
    have hjm : j = many.toNat := by omega
    subst hjm
    have hO20 : h2.H o = some (.cells [.row 2 ((passesU d t many.toNat).2.map encStep) (some k)]) := hO2.1
    refine ruG (mdL [(6, 2)]) hO20 ?_; (repeat' (with_reducible refine AndQ.mk ?_ ?_)); (all_goals (try ((with_reducible refine kin ?_); intro K1 hK1)))
    refine rtG Tryd.results11 ?_
    refine ⟨_, _, Weak.tup1 (Weak.row _ _ _) (Weak.refl _), Hp.le.refl _, ?_⟩
    rw [wantX, wantE, if_pos hl2, if_pos hl2]
theorem g_passes (d : Nat) (t : LT) (many : Int) (h : Hp) (hb : LC d t) (hd : d ≤ 28) (hmb : NB many) :
    ACalls Tryd.prog 8 [.agg (encL t), .v (.int .i64 many)] h (fun r _ => r = .tup [if faultF t = 0 ∧ 0 ≤ many ∧ many ≤ 5000 then wantX d t many.toNat else .row 2 [] none, .v (.int .i64 (if faultF t = 0 then if 0 ≤ many ∧ many ≤ 5000 then wantE d t many.toNat else 1 else faultF t))]) := by
  have hlen := encL_len t
  have htk : List.take 6 (encL t) = encL t := List.take_of_length_le (Nat.le_of_eq hlen)
  refine acalls_of tyok Tryd.func8 rfl (by kernel_rfl) fun c => ?_; simp only [Tryd.ntmps8, List.length_cons, List.length_nil, Nat.reduceAdd, Nat.reduceSub, jnk_rep, List.cons_append, List.nil_append]
  refine ruG (mdL [(19, 2)]) (And.intro hlen htk) ?_; (repeat' (with_reducible refine AndQ.mk ?_ ?_)); (all_goals (try ((with_reducible refine kin ?_); intro K1 hK1)))
  refine (g_check7 d t h hb hd).mono ?_; rintro _ hz ⟨rfl, hh⟩; refine hK1 _ ?_; clear hK1 K1; rw [hh]; clear hh hz
  refine ruG (mdL [(19, 2)]) (And.intro hlen htk) ?_; (repeat' (with_reducible refine AndQ.mk ?_ ?_)); (all_goals (try ((with_reducible refine kin ?_); intro K1 hK1)))
  refine awp_cond (t := _) rfl (fun h3 => ?_) (fun h3 => ?_)
  · refine ruG (mdL [(19, 2)]) trivial ?_; (repeat' (with_reducible refine AndQ.mk ?_ ?_)); (all_goals (try ((with_reducible refine kin ?_); intro K1 hK1)))
    refine rtG Tryd.results8 ?_
    have h3' : faultF t ≠ 0 := by simpa using h3
    refine ⟨_, _, Weak.tup1 (Weak.nil 2 0 0 ⟨rfl, rfl⟩) (Weak.refl _), Hp.le.refl _, ?_⟩
    rw [if_neg (fun h => h3' h.1), if_neg h3']
  have h3' : faultF t = 0 := by simpa using h3
  have hv : VL d t := vl_of d t hb (by unfold faultF at h3'; split at h3'; cases h3'; exact h3')
  refine ruG (mdL [(19, 2)]) trivial ?_; (repeat' (with_reducible refine AndQ.mk ?_ ?_)); (all_goals (try ((with_reducible refine kin ?_); intro K1 hK1)))
  refine (a_outside many 0 5000 h).mono ?_; rintro _ hz ⟨rfl, hh⟩; refine hK1 _ ?_; clear hK1 K1; rw [hh]; clear hh hz
  refine ruG (mdL [(19, 2)]) trivial ?_; (repeat' (with_reducible refine AndQ.mk ?_ ?_)); (all_goals (try ((with_reducible refine kin ?_); intro K1 hK1)))
  refine awp_cond (t := _) rfl (fun h4 => ?_) (fun h4 => ?_)
  · refine ruG (mdL [(19, 2)]) trivial ?_; (repeat' (with_reducible refine AndQ.mk ?_ ?_)); (all_goals (try ((with_reducible refine kin ?_); intro K1 hK1)))
    refine rtG Tryd.results8 ?_
    have h4' : ¬ (0 ≤ many ∧ many ≤ 5000) := by simp at h4; omega
    refine ⟨_, _, Weak.tup1 (Weak.nil 2 0 0 ⟨rfl, rfl⟩) (Weak.refl _), Hp.le.refl _, ?_⟩
    rw [if_neg (fun h => h4' h.2), if_pos h3', if_neg h4']
  have h4' : 0 ≤ many ∧ many ≤ 5000 := by simp at h4; omega
  refine rrG (mdL [(19, 2)]) (And.intro hlen htk) ?_; (repeat' (with_reducible refine AndQ.mk ?_ ?_)); (all_goals (try ((with_reducible refine kin ?_); intro K1 hK1)))
  refine (g_newPart d t h hb).mono ?_
  rintro _ h1 ⟨a, rfl, hR, hS, hn1, hn2, hk1, hk2⟩
  refine hK1 _ ?_; clear hK1 K1
  first | (with_reducible refine vRem_nil ?_) | (with_reducible refine vRst_nil ?_) | ((with_reducible refine vRem_id ?_); refine vRem_nil ?_) | ((first | ((with_reducible refine awp_idS (b := false) ?_); refine awp_seqR2 tyok (mdL [(19, 2)]) fun K1 hK1 => ?_) | ((with_reducible refine awp_idR (b := false) ?_); refine awp_region2 tyok (mdL [(19, 2)]) fun K1 hK1 => ?_) | ((with_reducible refine vRem_id ?_); refine vRem_go fun K1 hK1 => ?_) | ((with_reducible refine vRst_id ?_); refine vRst_go fun K1 hK1 => ?_) | ((with_reducible refine vMid_id ?_); refine vMid_go ?_ fun K1 hK1 => ?_)) <;> (simp only [vOps, jnk_zero, jnk_jnk, getD_jnk_lt, getD_jnk_ge, set_jnk_lt, set_jnk_ge, Nat.reduceSub, Nat.reduceLT, Nat.reduceLeDiff, gStep, condG, qV, binV, vV, iV, sV, bV, nV, arV, pickE, joinA, joinOk, isOpt, vEff, binE, vBin, iBin, sBin, arith, nilOf, nBin, boolOk, convI, storeE, newE, sliceE, appE, lenE, minE, biE, bndE, cellsAt, ldOk, ld, TyD.isAgg, AV.shift, AV.isAddr, AV.cellsB, AV.noLoc, rowOf, litRow, fillA, opS, uside, unw, evL, cv, St.put, opsOf, Value.oneCell', vIdx, stepI, vRest, reL, reI, mdL, splice, bef, aft, isCallB, isCallV, ↓reduceIte, Nat.reduceAdd, reduceCtorEq, Nat.reduceEqDiff, Nat.reduceMul, lemA, lemT]; (try and_intros); (all_goals first | (refine hK1 _ ?_; clear hK1 K1) | (first | exact True.intro | (intros; first | exact True.intro | (with_reducible assumption) | omega | (with_reducible rfl) | (with_reducible decide) | (simp_all; done) | (simp_all; omega))) | skip)))
  intro o ho
  refine hK1 _ ?_; clear hK1 K1
  refine vRem_nil ?_
  refine awp_ownPtr (cs := [.v (.slice none 0 0), .v (.int .i64 5000)]) o 0 2 (upd_same _ _ _) rfl (fun k hk => ?_)
  simp only [List.set_cons_zero, upd_upd]
  replace hk : h1.T k = none := hk
  replace ho : h1.H o = none := ho
  have hoa : o ∉ idsT a := fun hx => hR.ne.1 o hx ho
  have hka : k ∉ toksT a := fun hx => hR.ne.2 k hx hk
  refine rrG (mdL [(19, 2)]) trivial ?_; (repeat' (with_reducible refine AndQ.mk ?_ ?_)); (all_goals (try ((with_reducible refine kin ?_); intro K1 hK1)))
  refine awp_seq ?_
  refine ruG (mdL [(19, 2)]) trivial ?_; (repeat' (with_reducible refine AndQ.mk ?_ ?_)); (all_goals (try ((with_reducible refine kin ?_); intro K1 hK1)))
  refine awp_loopC (rl false [7, 2, 11, 2, 11]) 0 (fun g s => ∃ (j : Nat) (h2 : Hp) (s' : PS) (out : List (ByteArray × Int)), g + j = many.toNat ∧ RAt XP h2 d t a s' ∧ OutAt h2 o k oEx out ∧ PSB d t s' out.length ∧ out.length ≤ 5001 ∧ ((passesU d t j).2.length ≤ 5000 → s' = (passesU d t j).1 ∧ out = (passesU d t j).2) ∧ (5000 < (passesU d t j).2.length → out.length = 5001) ∧
    s = ⟨((jnk 7 ((.ptr a.id 0) :: (.ptr o 0) :: (jnk 11 ((.v (.int .i64 many)) :: (.v (.int .i64 j)) :: (jnk 11 [])))))), [], h2⟩) many.toNat ⟨0, _, ps0 t, [], by omega, hR.frame (fun x hx => upd_other _ _ (fun e => by subst e; exact hoa hx)) (fun x hx => upd_other _ _ (fun e => by subst e; exact hka hx)), ⟨upd_same _ _ _, upd_same _ _ _⟩, psb0 d t, by simp, fun _ => ⟨rfl, rfl⟩, fun h => by simp [passesU] at h, rfl⟩ ?_
  rintro g _ ⟨j, h2, s', out, hj, hR2, hO2, hB2, hl2, he, ho5, rfl⟩
  refine ruG (mdL [(19, 2)]) trivial ?_; (repeat' (with_reducible refine AndQ.mk ?_ ?_)); (all_goals (try ((with_reducible refine kin ?_); intro K1 hK1)))
  refine awp_cond (t := _) rfl (fun h5 => ?_) (fun h5 => ?_)
  · simp only [decide_eq_true_eq] at h5
    refine ruG (mdL [(19, 2)]) trivial ?_; (repeat' (with_reducible refine AndQ.mk ?_ ?_)); (all_goals (try ((with_reducible refine kin ?_); intro K1 hK1)))
    refine (g_passP d t a s' h2 o k out hv hR2 hS hB2 hO2 hoa hl2).mono ?_
    rintro r h6 ⟨rfl, s2, out2, hR6, hO6, _, q1, q2, q3⟩
    have e5 : (passesU d t (j + 1)).2.length = (passesU d t j).2.length + (passU d t (passesU d t j).1).2.length := by simp only [passesU, List.length_append]
    refine hK1 _ ?_; clear hK1 K1
    refine ruG (mdL [(19, 2)]) trivial ?_; (repeat' (with_reducible refine AndQ.mk ?_ ?_)); (all_goals (try ((with_reducible refine kin ?_); intro K1 hK1)))
    have hpo := passU_ok d t s' out.length hv hR2.fits (by omega) hB2
    by_cases hf : 5000 < out.length
    · obtain ⟨rfl, rfl⟩ := q1 hf
      refine ⟨g - 1, by omega, j + 1, h6, _, _, by omega, hR6, hO6, hB2, hl2, fun h => ?_, fun h => by omega, rfl⟩
      have := he (by omega)
      rw [this.2] at hf
      omega
    · have hex : (passesU d t j).2.length ≤ 5000 := by
        by_cases hx : (passesU d t j).2.length ≤ 5000
        · exact hx
        · have := ho5 (by omega); omega
      obtain ⟨rfl, rfl⟩ := he hex
      by_cases hle : (passesU d t j).2.length + (passU d t (passesU d t j).1).2.length ≤ 5000
      · obtain ⟨rfl, rfl⟩ := q2 hex hle
        exact ⟨g - 1, by omega, j + 1, h6, _, _, by omega, hR6, hO6, by rw [List.length_append]; exact_mod_cast hpo.2.1, by rw [List.length_append]; omega, fun _ => ⟨rfl, rfl⟩, fun h => by omega, rfl⟩
      · obtain ⟨p1, p2⟩ := q3 hex (by omega)
        exact ⟨g - 1, by omega, j + 1, h6, s2, out2, by omega, hR6, hO6, by rw [p1]; exact p2, by omega, fun h => by omega, fun _ => p1, rfl⟩
  · simp only [decide_eq_false_iff_not] at h5
    have hjm : j = many.toNat := by omega
    subst hjm
    refine ruG (mdL [(19, 2)]) trivial ?_; (repeat' (with_reducible refine AndQ.mk ?_ ?_)); (all_goals (try ((with_reducible refine kin ?_); intro K1 hK1)))
    refine (g_full28 o k h2 out hO2).mono ?_; rintro _ hz ⟨rfl, hh⟩; refine hK1 _ ?_; clear hK1 K1; rw [hh]; clear hh hz
    refine ruG (mdL [(19, 2)]) trivial ?_; (repeat' (with_reducible refine AndQ.mk ?_ ?_)); (all_goals (try ((with_reducible refine kin ?_); intro K1 hK1)))
    refine awp_cond (t := _) rfl (fun h6 => ?_) (fun h6 => ?_)
    · simp only [decide_eq_true_eq] at h6
      refine ruG (mdL [(19, 2)]) trivial ?_; (repeat' (with_reducible refine AndQ.mk ?_ ?_)); (all_goals (try ((with_reducible refine kin ?_); intro K1 hK1)))
      refine rtG Tryd.results8 ?_
      refine ⟨_, _, Weak.tup1 (Weak.nil 2 0 0 ⟨rfl, rfl⟩) (Weak.refl _), Hp.le.refl _, ?_⟩
      have hbig : ¬ (passesU d t many.toNat).2.length ≤ 5000 := fun hx => by have := (he hx).2; rw [this] at h6; omega
      rw [if_pos ⟨h3', h4'⟩, if_pos h3', if_pos h4', wantX, wantE, if_neg hbig, if_neg hbig]
    · simp only [decide_eq_false_iff_not] at h6
      have hO20 : h2.H o = some (.cells [.row 2 (out.map encStep) (some k), .v (.int .i64 5000)]) := hO2.1
      refine ruG (mdL [(19, 2)]) hO20 ?_; (repeat' (with_reducible refine AndQ.mk ?_ ?_)); (all_goals (try ((with_reducible refine kin ?_); intro K1 hK1)))
      refine rtG Tryd.results8 ?_
      refine ⟨_, _, Weak.tup1 (Weak.row _ _ _) (Weak.refl _), Hp.le.refl _, ?_⟩
      have hsm : (passesU d t many.toNat).2.length ≤ 5000 := by
        by_cases hx : (passesU d t many.toNat).2.length ≤ 5000
        · exact hx
        · have := ho5 (by omega); omega
      rw [if_pos ⟨h3', h4'⟩, if_pos h3', if_pos h4', wantX, wantE, if_pos hsm, if_pos hsm, (he hsm).2]
end Go.Proofs.YtoleejecmefogaaDoor
/- slices.Equal at steps: two rows of the same cells. -/
namespace Go.Proofs.YtoleejecmefogaaDoor
open Go.RowKit
def EqSRel (n : Nat) (w : World) (g : Nat) (i : Value) (wr : World) : Prop := ∃ k : Nat, k + g = n ∧ i = .int .i64 k ∧ ∃ q, wr = w.drewN q
set_option maxRecDepth 100000 in
set_option maxHeartbeats 1000000 in
theorem equalS_same (g o g' o' n c c' : Nat) (s : Nat → ByteArray) (v : Nat → Int) (w : World) (hn : n ≤ 1000000000)
    (h1 : ∀ k, k < n → w.cell? ⟨g, o + k * 2, none⟩ = some (.string (s k)) ∧ w.cell? ⟨g, o + k * 2 + 1, none⟩ = some (.int .i64 (v k))) (h2 : ∀ k, k < n → w.cell? ⟨g', o' + k * 2, none⟩ = some (.string (s k)) ∧ w.cell? ⟨g', o' + k * 2 + 1, none⟩ = some (.int .i64 (v k))) :
    Calls Tryd.prog 12 #[.slice (some ⟨g, o, none⟩) n c, .slice (some ⟨g', o', none⟩) n c'] w fun e w' => e = .returned (.bool true) ∧ ∃ q, w' = w.drewN q := by
  have H1 := Lib.hid h1
  have H2 := Lib.hid h2
  clear h1 h2
  go_enter Tryd.func12, Tryd.ntmps12
  go_wp2_with fail
  go_loopg [13, 5] n (fun gg i _ wr => EqSRel n w gg i wr)
  case atStart => exact ⟨0, by omega, rfl, 0, rfl⟩
  case round =>
    obtain ⟨k, hk, rfl, q, rfl⟩ := hrel
    by_cases hg : gk = 0
    · obtain rfl : k = n := by omega
      clear hk hg
      go_wp2_with fail
      go_ret
      exact ⟨rfl, _, rfl⟩
    · have hlt : k < n := by omega
      obtain ⟨c0, c1⟩ := H1.out k hlt
      obtain ⟨d0, d1⟩ := H2.out k hlt
      generalize s k = s1 at *
      generalize v k = v1 at *
      have HK := Lib.hid hk
      have hgk : gk ≠ 0 := hg
      clear hk hg
      have hlt' : (k : Int) < (n : Int) := by omega
      go_wp2_with fail
      go_quiet (fail)
      go_wp2_with fail
      go_roundg (gk - 1)
      case measure => omega
      case rel => exact ⟨k + 1, by have := HK.out; omega, by go_num, _, rfl⟩
set_option maxRecDepth 100000 in
theorem equalS_nil (a a' : Option Addr) (c c' : Nat) (w : World) :
    Calls Tryd.prog 12 #[.slice a 0 c, .slice a' 0 c'] w fun e w' => e = .returned (.bool true) ∧ ∃ q, w' = w.drewN q := by
  go_enter Tryd.func12, Tryd.ntmps12
  go_wp2_with fail
  go_loopg [13, 5] 0 (fun gg i _ wr => EqSRel 0 w gg i wr)
  case atStart => exact ⟨0, by omega, rfl, 0, rfl⟩
  case round =>
    obtain ⟨k, hk, rfl, q, rfl⟩ := hrel
    obtain rfl : k = 0 := by omega
    go_wp2_with fail
    go_ret
    exact ⟨rfl, _, rfl⟩
end Go.Proofs.YtoleejecmefogaaDoor
/- slices.Equal at steps, cmp.Or: told in trees. -/
namespace Go.Proofs.YtoleejecmefogaaDoor
open Go
set_option maxRecDepth 100000
set_option maxHeartbeats 8000000
theorem rep_v_inv {G : Gh} {x y : Value} (h : Rep G (.v x) y) : y = x := by cases h; rfl
theorem rep_row2 {G : Gh} {xs : List (ByteArray × Int)} {v : Value} (h : Rep G (.row 2 (xs.map encStep) none) v) : (xs = [] ∧ ∃ a c, v = .slice a 0 c) ∨ ∃ g o c, v = .slice (some ⟨g, o, none⟩) xs.length c ∧
    ∀ k, k < xs.length → G.val g (o + k * 2) = some (.string (xs.getD k default).1) ∧ G.val g (o + k * 2 + 1) = some (.int .i64 (xs.getD k default).2) := by
  generalize hx : xs.map encStep = ys at h
  cases h with
  | nil => exact .inl ⟨by simpa using hx, none, 0, rfl⟩
  | nilA _ a => exact .inl ⟨by simpa using hx, a, 0, rfl⟩
  | row _ _ _ g o n c u hn hc hz hu hr h1 ht =>
    have hnx : n = xs.length := by rw [← hn, ← hx, List.length_map]
    subst hnx
    refine .inr ⟨g, o, c, rfl, fun k hk => ?_⟩
    have hfl := flatten_len hz
    have hzk : ys[k]? = some (encStep (xs.getD k default)) := by rw [← hx, List.getElem?_map, List.getD_eq_getElem?_getD, List.getElem?_eq_getElem hk]; rfl
    have hky : k < ys.length := by omega
    have hkey : ∀ j, j < 2 → ∀ a, (encStep (xs.getD k default))[j]? = some (.v a) → G.val g (o + (k * 2 + j)) = some a := fun j hj a ha => by
      have hlt : k * 2 + j < ys.flatten.length := by rw [hfl]; omega
      have e1 := flatten_at hz hky hj
      rw [show ys[k] = encStep (xs.getD k default) by rw [List.getElem?_eq_getElem hky] at hzk; simpa using hzk, ha, List.getElem?_eq_getElem hlt] at e1
      have e2 := hr (k * 2 + j) hlt
      rw [Option.some.inj e1] at e2
      rw [hu (k * 2 + j) (by omega), rep_v_inv e2]
    exact ⟨hkey 0 (by omega) _ rfl, by rw [Nat.add_assoc]; exact hkey 1 (by omega) _ rfl⟩
theorem drewN_ok (w : World) : ∀ n, (w.drewN n).heap = w.heap ∧ (w.drewN n).os = w.os ∧ (w.drewN n).tape = w.tape ∧ (w.drewN n).output = w.output := fun n => ⟨rfl, rfl, rfl, rfl⟩
theorem g_equal12 (xs : List (ByteArray × Int)) (h : Hp) (hl : xs.length ≤ 1000000000) : ACalls Tryd.prog 12 [.row 2 (xs.map encStep) none, .row 2 (xs.map encStep) none] h (fun r h' => r = .v (.bool true) ∧ h' = h) := by
  refine ⟨by kernel_rfl, fun G w vs hs hv ha => ?_⟩
  have h0 := ha 0 (by simp)
  have h1 := ha 1 (by simp)
  have hvs : vs = #[vs.getD 0 undef, vs.getD 1 undef] := by
    have hv2 : vs.size = 2 := hv
    apply Array.ext (by simpa using hv2)
    intro j hj hj'
    simp only [List.size_toArray, List.length_cons, List.length_nil] at hj'
    match j, hj' with
    | 0, _ => simp [Array.getD, hv2]
    | 1, _ => simp [Array.getD, hv2]
    | j + 2, h => omega
  rw [hvs]
  generalize vs.getD 0 undef = v0 at *
  generalize vs.getD 1 undef = v1 at *
  have fin : ∀ e w', (e = .returned (.bool true) ∧ ∃ q, w' = w.drewN q) → ∃ r h' G' v, e = Ending.returned v ∧ (r = AV.v (.bool true) ∧ h' = h) ∧ GLe G G' ∧ Fr G h w G' h' w' ∧ HSim G' h' w' ∧ Rep G' r v := by
    rintro _ _ ⟨rfl, q, rfl⟩
    exact ⟨_, h, G, _, rfl, ⟨rfl, rfl⟩, GLe.refl _, Fr.below (Fr.refl _ _ _) (fun _ _ => rfl) rfl rfl rfl (Nat.le_refl _), hs.below (fun _ _ => rfl), .v _ rfl⟩
  rcases rep_row2 h0 with ⟨hx, a, c, rfl⟩ | ⟨g, o, c, rfl, hc⟩
  · rcases rep_row2 h1 with ⟨_, a', c', rfl⟩ | ⟨g', o', c', rfl, hc'⟩
    · exact (equalS_nil a a' c c' w).mono fin
    · subst hx
      exact (equalS_nil a (some ⟨g', o', none⟩) c c' w).mono fin
  · rcases rep_row2 h1 with ⟨hx, a', c', rfl⟩ | ⟨g', o', c', rfl, hc'⟩
    · subst hx
      exact (equalS_nil (some ⟨g, o, none⟩) a' c c' w).mono fin
    · exact (equalS_same g o g' o' xs.length c c' (fun k => (xs.getD k default).1) (fun k => (xs.getD k default).2) w hl (fun k hk => ⟨hs.val _ _ _ (hc k hk).1, hs.val _ _ _ (hc k hk).2⟩) (fun k hk => ⟨hs.val _ _ _ (hc' k hk).1, hs.val _ _ _ (hc' k hk).2⟩)).mono fin
theorem g_or9 (a b : Int) (h : Hp) : ACalls Tryd.prog 9 [.row 1 [[.v (.int .i64 a)], [.v (.int .i64 b)]] none] h (fun r h' => r = .v (.int .i64 (if a = 0 then b else a)) ∧ h' = h) := by
  refine acalls_of tyok Tryd.func9 rfl (by kernel_rfl) fun c => ?_; simp only [Tryd.ntmps9, List.length_cons, List.length_nil, Nat.reduceAdd, Nat.reduceSub, jnk_rep, List.cons_append, List.nil_append]
  refine ruG (mdL []) trivial ?_; (repeat' (with_reducible refine AndQ.mk ?_ ?_)); (all_goals (try ((with_reducible refine kin ?_); intro K1 hK1)))
  refine awp_loopC (rl false [3, 1, 2, 3, 9]) 0 (fun g s => ∃ j : Nat, g + j = 2 ∧ (1 ≤ j → a = 0) ∧ (2 ≤ j → b = 0) ∧ s = ⟨((jnk 3 ((.v (.int .i64 0)) :: AV.junk :: AV.junk :: ((.row 1 [[.v (.int .i64 a)], [.v (.int .i64 b)]] none) :: (.v (.int .i64 2)) :: (.v (.int .i64 j)) :: (jnk 9 []))))), [], h⟩) 2 ⟨0, by omega, fun h => by omega, fun h => by omega, rfl⟩ ?_
  rintro g _ ⟨j, hj, h1, h2, rfl⟩
  refine ruG (mdL []) trivial ?_; (repeat' (with_reducible refine AndQ.mk ?_ ?_)); (all_goals (try ((with_reducible refine kin ?_); intro K1 hK1)))
  refine awp_cond (t := _) rfl (fun h3 => ?_) (fun h3 => ?_)
  · simp only [decide_eq_true_eq] at h3
    obtain ⟨x, hx, hgx⟩ : ∃ x : Int, (j = 0 ∧ x = a ∨ j = 1 ∧ x = b) ∧ List.getD [[AV.v (.int .i64 a)], [.v (.int .i64 b)]] j [] = [.v (.int .i64 x)] := by
      rcases (show j = 0 ∨ j = 1 by omega) with rfl | rfl
      · exact ⟨a, .inl ⟨rfl, rfl⟩, rfl⟩
      · exact ⟨b, .inr ⟨rfl, rfl⟩, rfl⟩
    refine ruG (mdL []) (And.intro @Int.toNat_natCast hgx) ?_; (repeat' (with_reducible refine AndQ.mk ?_ ?_)); (all_goals (try ((with_reducible refine kin ?_); intro K1 hK1)))
    refine awp_cond (t := _) rfl (fun h4 => ?_) (fun h4 => ?_)
    · have h4' : x ≠ 0 := by simpa using h4
      refine ruG (mdL []) trivial ?_; (repeat' (with_reducible refine AndQ.mk ?_ ?_)); (all_goals (try ((with_reducible refine kin ?_); intro K1 hK1)))
      refine rtG Tryd.results9 ?_
      refine ⟨_, _, Weak.refl _, Hp.le.refl _, ?_, rfl⟩
      rcases hx with ⟨rfl, rfl⟩ | ⟨rfl, rfl⟩
      · rw [if_neg h4']
      · rw [if_pos (h1 (by omega))]
    · have h4' : x = 0 := by simpa using h4
      refine ruG (mdL []) trivial ?_; (repeat' (with_reducible refine AndQ.mk ?_ ?_)); (all_goals (try ((with_reducible refine kin ?_); intro K1 hK1)))
      refine ⟨g - 1, by omega, j + 1, by omega, fun _ => ?_, fun h => ?_, rfl⟩
      · rcases hx with ⟨rfl, rfl⟩ | ⟨rfl, rfl⟩
        · exact h4'
        · exact h1 (by omega)
      · rcases hx with ⟨rfl, rfl⟩ | ⟨rfl, rfl⟩
        · omega
        · exact h4'
  · simp only [decide_eq_false_iff_not] at h3
    refine ruG (mdL []) trivial ?_; (repeat' (with_reducible refine AndQ.mk ?_ ?_)); (all_goals (try ((with_reducible refine kin ?_); intro K1 hK1)))
    refine rtG Tryd.results9 ?_
    refine ⟨_, _, Weak.refl _, Hp.le.refl _, ?_, rfl⟩
    rw [if_pos (h1 (by omega)), h2 (by omega)]
end Go.Proofs.YtoleejecmefogaaDoor
/- loop.part.begins, where there is no LoopShare. -/
namespace Go.Proofs.YtoleejecmefogaaDoor
open Go
set_option maxRecDepth 100000
set_option maxHeartbeats 8000000
theorem rr61SHome {P Q X : Prop} (x : X) (q : Q) (h : X → Hold Q → P := by intro x0 q0; (repeat (first | (with_reducible refine awp_block ?_) | (with_reducible refine vRem_nil ?_) | (with_reducible refine vRst_nil ?_) | ((with_reducible refine vRem_id ?_); refine vRem_nil ?_) | ((first | ((with_reducible refine awp_idS (b := false) ?_); refine awp_seqR2 tyok (mdL []) fun KN hKN => ?_) | ((with_reducible refine awp_idR (b := false) ?_); refine awp_region2 tyok (mdL []) fun KN hKN => ?_) | ((with_reducible refine vRem_id ?_); refine vRem_go fun KN hKN => ?_) | ((with_reducible refine vRst_id ?_); refine vRst_go fun KN hKN => ?_) | ((with_reducible refine vMid_id ?_); refine vMid_go ?_ fun KN hKN => ?_) | ((with_reducible refine awp_idS (b := true) ?_); refine awp_seqD2 (id := 6) tyok (by kernel_rfl) (mdL []) (E0 := [0, 1, 2, 3, 4, 5, 6, 7, 8]) (pl := [(9, [3], [10, 11])]) 44 rfl (by kernel_rfl) fun KN hKN => ?_) | ((with_reducible refine awp_idR (b := true) ?_); refine awp_draw2 (id := 6) tyok (by kernel_rfl) (mdL []) (E0 := [0, 1, 2, 3, 4, 5, 6, 7, 8]) (pl := [(9, [3], [10, 11])]) 44 rfl (by kernel_rfl) fun KN hKN => ?_)) <;> (simp only [vOps, jnk_zero, jnk_jnk, getD_jnk_lt, getD_jnk_ge, set_jnk_lt, set_jnk_ge, Nat.reduceSub, Nat.reduceLT, Nat.reduceLeDiff, gStep, condG, qV, binV, vV, iV, sV, bV, nV, arV, pickE, joinA, joinOk, isOpt, vEff, binE, vBin, iBin, sBin, arith, nilOf, nBin, boolOk, convI, storeE, newE, sliceE, appE, lenE, minE, biE, bndE, cellsAt, ldOk, ld, TyD.isAgg, AV.shift, AV.isAddr, AV.cellsB, AV.noLoc, rowOf, litRow, fillA, opS, uside, unw, evL, cv, St.put, opsOf, Value.oneCell', vIdx, stepI, vRest, reL, reI, mdL, splice, bef, aft, isCallB, isCallV, ↓reduceIte, Nat.reduceAdd, reduceCtorEq, Nat.reduceEqDiff, Nat.reduceMul, lemA, lemT, x0]; (try and_intros); (all_goals first | (refine hKN _ ?_; clear hKN KN) | (first | exact True.intro | (intros; first | exact True.intro | (with_reducible assumption) | omega | (with_reducible rfl) | (with_reducible decide) | (simp_all; done) | (simp_all; omega))) | skip))) | (with_reducible refine awp_skip ?_) | (with_reducible refine awp_exit ?_) | (with_reducible refine thenQ_normal ?_) | (with_reducible refine inBlock_normal ?_) | (with_reducible refine thenQ_exit ?_) | (with_reducible refine inBlock_exit ?_) | (with_reducible refine inBlock_other (by decide) ?_))); (all_goals (try revert KN)); first | (exact q0.out; done) | (apply Hold.fst; exact q0; apply Hold.snd; exact q0; done) | (apply Hold.a; exact q0; apply Hold.b; exact q0; apply Hold.c; exact q0; done) | (apply Hold.a4; exact q0; apply Hold.b4; exact q0; apply Hold.c4; exact q0; apply Hold.d4; exact q0; done)) : P := h x ⟨q⟩
theorem ru61SHome {P Q X : Prop} (x : X) (q : Q) (h : X → Hold Q → P := by intro x0 q0; (repeat (first | (with_reducible refine awp_block ?_) | (with_reducible refine vRem_nil ?_) | (with_reducible refine vRst_nil ?_) | ((with_reducible refine vRem_id ?_); refine vRem_nil ?_) | ((first | ((with_reducible refine awp_idS (b := false) ?_); refine awp_seqR2 tyok (mdL []) fun KN hKN => ?_) | ((with_reducible refine awp_idR (b := false) ?_); refine awp_region2 tyok (mdL []) fun KN hKN => ?_) | ((with_reducible refine vRem_id ?_); refine vRem_go fun KN hKN => ?_) | ((with_reducible refine vRst_id ?_); refine vRst_go fun KN hKN => ?_) | ((with_reducible refine vMid_id ?_); refine vMid_go ?_ fun KN hKN => ?_) | ((with_reducible refine awp_idS (b := true) ?_); refine awp_seqD2 (id := 6) tyok (by kernel_rfl) (mdL []) (E0 := [0, 1, 2, 3, 4, 5, 6, 7, 8]) (pl := [(9, [3], [10, 11])]) 44 rfl (by kernel_rfl) fun KN hKN => ?_) | ((with_reducible refine awp_idR (b := true) ?_); refine awp_draw2 (id := 6) tyok (by kernel_rfl) (mdL []) (E0 := [0, 1, 2, 3, 4, 5, 6, 7, 8]) (pl := [(9, [3], [10, 11])]) 44 rfl (by kernel_rfl) fun KN hKN => ?_)) <;> (simp only [vOps, jnk_zero, jnk_jnk, getD_jnk_lt, getD_jnk_ge, set_jnk_lt, set_jnk_ge, Nat.reduceSub, Nat.reduceLT, Nat.reduceLeDiff, gStep, condG, qV, binV, vV, iV, sV, bV, nV, arV, pickE, joinA, joinOk, isOpt, vEff, binE, vBin, iBin, sBin, arith, nilOf, nBin, boolOk, convI, storeE, newE, sliceE, appE, lenE, minE, biE, bndE, cellsAt, ldOk, ld, TyD.isAgg, AV.shift, AV.isAddr, AV.cellsB, AV.noLoc, rowOf, litRow, fillA, opS, uside, unw, evL, cv, St.put, opsOf, Value.oneCell', vIdx, stepI, vRest, reL, reI, mdL, splice, bef, aft, isCallB, isCallV, ↓reduceIte, Nat.reduceAdd, reduceCtorEq, Nat.reduceEqDiff, Nat.reduceMul, lemA, lemT, x0]; (try and_intros); (all_goals first | (refine hKN _ ?_; clear hKN KN) | (first | exact True.intro | (intros; first | exact True.intro | (with_reducible assumption) | omega | (with_reducible rfl) | (with_reducible decide) | (simp_all; done) | (simp_all; omega))) | skip))) | (with_reducible refine awp_seq ?_) | (with_reducible refine awp_skip ?_) | (with_reducible refine awp_exit ?_) | (with_reducible refine thenQ_normal ?_) | (with_reducible refine inBlock_normal ?_) | (with_reducible refine thenQ_exit ?_) | (with_reducible refine inBlock_exit ?_) | (with_reducible refine inBlock_other (by decide) ?_))); (all_goals (try revert KN)); first | (exact q0.out; done) | (apply Hold.fst; exact q0; apply Hold.snd; exact q0; done) | (apply Hold.a; exact q0; apply Hold.b; exact q0; apply Hold.c; exact q0; done) | (apply Hold.a4; exact q0; apply Hold.b4; exact q0; apply Hold.c4; exact q0; apply Hold.d4; exact q0; done)) : P := h x ⟨q⟩
/-- slices.IndexFunc and ContainsFunc at parts. -/
theorem g_index74 (fid : Nat) (xs : List AT) (K : AV) (hK : kidsC xs K) (hl : xs.length ≤ 100000) (I P : Nat → Hp → Prop) (h : Hp) (h0 : I 0 h)
    (step : ∀ j h, j < xs.length → I j h → ACalls Tryd.prog fid [.ptr (xs.getD j default).id 0] h (fun r h' => ∃ b, r = .v (.bool b) ∧ (b = true → P j h') ∧ (b = false → I (j + 1) h'))) :
    ACalls Tryd.prog 74 [K, .fn fid []] h (fun r h' => (∃ j : Nat, j < xs.length ∧ r = .v (.int .i64 j) ∧ P j h') ∨ r = .v (.int .i64 (-1)) ∧ I xs.length h') := by
  rcases hK with ⟨rfl, rfl⟩ | ⟨tk, rfl⟩
  · refine acalls_of tyok Tryd.func74 rfl (by kernel_rfl) fun c => ?_; simp only [Tryd.ntmps74, List.length_cons, List.length_nil, Nat.reduceAdd, Nat.reduceSub, jnk_rep, List.cons_append, List.nil_append]
    refine ruG (mdL []) trivial ?_; (repeat' (with_reducible refine AndQ.mk ?_ ?_)); (all_goals (try ((with_reducible refine kin ?_); intro K1 hK1)))
    refine awp_loopC (rl false [7, 2, 10]) 0 (fun g s => s = ⟨((jnk 7 ((.v (.int .i64 0)) :: (.v (.int .i64 0)) :: (jnk 10 [])))), [], h⟩) 0 rfl ?_
    rintro g _ rfl
    refine ruG (mdL []) trivial ?_; (repeat' (with_reducible refine AndQ.mk ?_ ?_)); (all_goals (try ((with_reducible refine kin ?_); intro K1 hK1)))
    refine awp_cond (t := _) rfl (fun h1 => by cases h1) (fun h1 => ?_)
    refine ruG (mdL []) trivial ?_; (repeat' (with_reducible refine AndQ.mk ?_ ?_)); (all_goals (try ((with_reducible refine kin ?_); intro K1 hK1)))
    refine rtG Tryd.results74 ?_
    exact ⟨_, _, Weak.refl _, Hp.le.refl _, .inr ⟨rfl, h0⟩⟩
  · refine acalls_of tyok Tryd.func74 rfl (by kernel_rfl) fun c => ?_; simp only [Tryd.ntmps74, List.length_cons, List.length_nil, Nat.reduceAdd, Nat.reduceSub, jnk_rep, List.cons_append, List.nil_append]
    refine ruG (mdL []) trivial ?_; (repeat' (with_reducible refine AndQ.mk ?_ ?_)); (all_goals (try ((with_reducible refine kin ?_); intro K1 hK1)))
    refine awp_loopC (rl false [0, 2, 5, 2, 10]) 0 (fun g s => ∃ (j : Nat) (h' : Hp), g + j = xs.length ∧ I j h' ∧ s = ⟨((.row 1 (xs.map fun a => [.ptr a.id 0]) tk) :: (.fn fid []) :: (jnk 5 ((.v (.int .i64 xs.length)) :: (.v (.int .i64 j)) :: (jnk 10 [])))), [], h'⟩) xs.length ⟨0, h, by omega, h0, rfl⟩ ?_
    rintro g _ ⟨j, h', hj, hI, rfl⟩
    refine ruG (mdL []) trivial ?_; (repeat' (with_reducible refine AndQ.mk ?_ ?_)); (all_goals (try ((with_reducible refine kin ?_); intro K1 hK1)))
    refine awp_cond (t := _) rfl (fun h1 => ?_) (fun h1 => ?_)
    · simp only [decide_eq_true_eq] at h1
      have hjk : j < xs.length := by omega
      have hg : (xs.map fun a : AT => [AV.ptr a.id 0]).getD j [] = [.ptr (xs.getD j default).id 0] := getD_enc (fun a : AT => [AV.ptr a.id 0]) xs j default hjk
      have st := step j h' hjk hI
      refine ruG (mdL []) (And.intro @Int.toNat_natCast hg) ?_; (repeat' (with_reducible refine AndQ.mk ?_ ?_)); (all_goals (try ((with_reducible refine kin ?_); intro K1 hK1)))
      refine st.mono ?_; rintro _ _ ⟨b, rfl, hb1, hb2⟩; refine hK1 _ ?_; clear hK1 K1
      refine ruG (mdL []) trivial ?_; (repeat' (with_reducible refine AndQ.mk ?_ ?_)); (all_goals (try ((with_reducible refine kin ?_); intro K1 hK1)))
      refine awp_cond (t := _) rfl (fun h2 => ?_) (fun h2 => ?_)
      · refine ruG (mdL []) trivial ?_; (repeat' (with_reducible refine AndQ.mk ?_ ?_)); (all_goals (try ((with_reducible refine kin ?_); intro K1 hK1)))
        refine rtG Tryd.results74 ?_
        exact ⟨_, _, Weak.refl _, Hp.le.refl _, .inl ⟨j, hjk, rfl, hb1 h2⟩⟩
      · refine ruG (mdL []) trivial ?_; (repeat' (with_reducible refine AndQ.mk ?_ ?_)); (all_goals (try ((with_reducible refine kin ?_); intro K1 hK1)))
        exact ⟨g - 1, by omega, j + 1, _, by omega, hb2 h2, rfl⟩
    · simp only [decide_eq_false_iff_not] at h1
      have hjk : j = xs.length := by omega
      subst hjk
      refine ruG (mdL []) trivial ?_; (repeat' (with_reducible refine AndQ.mk ?_ ?_)); (all_goals (try ((with_reducible refine kin ?_); intro K1 hK1)))
      refine rtG Tryd.results74 ?_
      exact ⟨_, _, Weak.refl _, Hp.le.refl _, .inr ⟨rfl, hI⟩⟩
theorem g_contains68 (fid : Nat) (xs : List AT) (K : AV) (hK : kidsC xs K) (hl : xs.length ≤ 100000) (I P : Nat → Hp → Prop) (h : Hp) (h0 : I 0 h)
    (step : ∀ j h, j < xs.length → I j h → ACalls Tryd.prog fid [.ptr (xs.getD j default).id 0] h (fun r h' => ∃ b, r = .v (.bool b) ∧ (b = true → P j h') ∧ (b = false → I (j + 1) h'))) :
    ACalls Tryd.prog 68 [K, .fn fid []] h (fun r h' => (∃ j : Nat, j < xs.length ∧ r = .v (.bool true) ∧ P j h') ∨ r = .v (.bool false) ∧ I xs.length h') := by
  have hi := g_index74 fid xs K hK hl I P h h0 step
  have o3 : OneV K := by rcases hK with ⟨_, rfl⟩ | ⟨tk, rfl⟩ <;> exact ⟨rfl, rfl, rfl, rfl, rfl⟩
  obtain ⟨w1, w2, w3, w4, w5⟩ := o3
  unfold uside at w1; unfold unw at w2; unfold AV.noLoc at w3; unfold isOpt at w4; simp only [AV.cellsB, Value.oneCell'] at w5
  refine acalls_of tyok Tryd.func68 rfl (by kernel_rfl) fun c => ?_; simp only [Tryd.ntmps68, List.length_cons, List.length_nil, Nat.reduceAdd, Nat.reduceSub, jnk_rep, List.cons_append, List.nil_append]
  refine ruG (mdL []) (And.intro w1 (And.intro w2 (And.intro w3 (And.intro w4 w5)))) ?_; (repeat' (with_reducible refine AndQ.mk ?_ ?_)); (all_goals (try ((with_reducible refine kin ?_); intro K1 hK1)))
  refine hi.mono ?_
  rintro _ h' (⟨j, hj, rfl, hp⟩ | ⟨rfl, hi⟩)
  · refine hK1 _ ?_; clear hK1 K1
    refine ruG (mdL []) trivial ?_; (repeat' (with_reducible refine AndQ.mk ?_ ?_)); (all_goals (try ((with_reducible refine kin ?_); intro K1 hK1)))
    refine rtG Tryd.results68 ?_
    exact ⟨_, _, Weak.refl _, Hp.le.refl _, .inl ⟨j, hj, by simp, hp⟩⟩
  · refine hK1 _ ?_; clear hK1 K1
    refine ruG (mdL []) trivial ?_; (repeat' (with_reducible refine AndQ.mk ?_ ?_)); (all_goals (try ((with_reducible refine kin ?_); intro K1 hK1)))
    refine rtG Tryd.results68 ?_
    exact ⟨_, _, Weak.refl _, Hp.le.refl _, .inr ⟨by simp, hi⟩⟩
/-- All is as at the beginning. -/
def homeF : Nat → LT → PS → Bool
  | 0, _, _ => true
  | d + 1, .mk kind _ _ _ kids _, .mk p _ ks => (p.tmod (if kind = 3 then (kids.length : Int) else 1) == 0) && (List.range kids.length).all fun j => homeF d (kids.getD j default) (ks.getD j default)
/-- No LoopShare. -/
def N4 : Nat → LT → Prop
  | 0, _ => True
  | d + 1, .mk kind _ _ _ kids _ => kind ≠ 4 ∧ ∀ k ∈ kids, N4 d k
theorem g_begins61 : ∀ (d : Nat) (t : LT) (a : AT) (s : PS) (h : Hp), VL d t → N4 d t → RAt XP h d t a s → PSB d t s 100000 → ACalls Tryd.prog 61 [.ptr a.id 0] h (fun r h' => r = .v (.bool (homeF d t s)) ∧ h' = h)
  | 0, _, _, _, _, hv, _, _, _ => hv.elim
  | d + 1, .mk kind item long many kids shares, .mk i c0 az, .mk p cs ks, h0, hv, hn, hR, hB => by
    obtain ⟨v1, v2, v3, v4, v5, v6, v7, v8⟩ := id hv
    obtain ⟨n1, n2⟩ := id hn
    obtain ⟨⟨K, hH, hK⟩, hT, ⟨l1, l2, l3, l4⟩, hkids⟩ := id hR
    obtain ⟨c1, c2, c3⟩ := id hB
    have hH0 : h0.H i = some (.cells [.v (.int .i64 kind), .v (.string item), .v (.int .i64 long), .v (.int .i64 many), .row 6 (kids.map encL) none, .row 1 (shares.map encI) none, K, .v (.int .i64 p), .arr 1 c0 kids.length, .v (.int .i64 shares.sum)]) := hH
    have o3 : OneV K := by rcases hK with ⟨_, rfl⟩ | ⟨tk, rfl⟩ <;> exact ⟨rfl, rfl, rfl, rfl, rfl⟩
    obtain ⟨w1, w2, w3, w4, w5⟩ := o3
    unfold uside at w1; unfold unw at w2; unfold AV.noLoc at w3; unfold isOpt at w4; simp only [AV.cellsB, Value.oneCell'] at w5
    have e4 : (kind == 4) = false := by simp; exact n1
    have hclo : ∀ j, j < az.length → ACalls Tryd.prog 69 [.ptr (az.getD j default).id 0] h0 (fun r h' => r = .v (.bool (!homeF d (kids.getD j default) (ks.getD j default))) ∧ h' = h0) := fun j hj => by
      refine acalls_of tyok Tryd.func69 rfl (by kernel_rfl) fun c => ?_; simp only [Tryd.ntmps69, List.length_cons, List.length_nil, Nat.reduceAdd, Nat.reduceSub, jnk_rep, List.cons_append, List.nil_append]
      refine ruG (mdL []) trivial ?_; (repeat' (with_reducible refine AndQ.mk ?_ ?_)); (all_goals (try ((with_reducible refine kin ?_); intro K1 hK1)))
      refine (g_begins61 d _ _ _ h0 (v8 _ (getD_mem' kids j default (by omega))) (n2 _ (getD_mem' kids j default (by omega))) (hkids j (by omega)) (c3 j (by omega))).mono ?_; rintro _ hz ⟨rfl, hh⟩; refine hK1 _ ?_; clear hK1 K1; rw [hh]; clear hh hz
      refine ruG (mdL []) trivial ?_; (repeat' (with_reducible refine AndQ.mk ?_ ?_)); (all_goals (try ((with_reducible refine kin ?_); intro K1 hK1)))
      refine rtG Tryd.results69 ?_
      exact ⟨_, _, Weak.refl _, Hp.le.refl _, rfl, rfl⟩
    have hcon := g_contains68 69 az K hK (by omega) (fun j h' => h' = h0 ∧ ∀ l, l < j → homeF d (kids.getD l default) (ks.getD l default) = true) (fun j h' => h' = h0 ∧ homeF d (kids.getD j default) (ks.getD j default) = false) h0 ⟨rfl, fun l hl => by omega⟩
      (fun j h' hj ⟨e, hI⟩ => by
        rw [e]
        refine (hclo j hj).mono ?_
        rintro _ h2 ⟨rfl, e2⟩
        refine ⟨_, rfl, fun hb => ⟨e2, by simpa using hb⟩, fun hb => ⟨e2, fun l hl => ?_⟩⟩
        by_cases hlj : l = j
        · rw [hlj]; simpa using hb
        · exact hI l (by omega))
    show ACalls Tryd.prog 61 [.ptr i 0] h0 _
    refine acalls_of tyok Tryd.func61 rfl (by kernel_rfl) fun c => ?_; simp only [Tryd.ntmps61, List.length_cons, List.length_nil, Nat.reduceAdd, Nat.reduceSub, jnk_rep, List.cons_append, List.nil_append]
    refine rr61SHome hH0 ?_; (repeat' (with_reducible refine AndQ.mk ?_ ?_)); (all_goals (try ((with_reducible refine kin ?_); intro K1 hK1)))
    refine awp_seq ?_
    refine awp_join (rl false [0, 1, 2, 1, 40]) 0 (fun s => s = ⟨((.ptr i 0) :: AV.junk :: AV.junk :: ((.v (.int .i64 (if kind = 3 then (kids.length : Int) else 1))) :: (jnk 40 []))), [], h0⟩) ?_ ?_
    · by_cases h3 : kind = 3
      · have e3 : (kind == 3) = true := by simp; exact h3
        obtain ⟨tk, rfl⟩ : ∃ tk, K = .row 1 (az.map fun a => [.ptr a.id 0]) tk := by
          rcases hK with ⟨rfl, _⟩ | h9
          · simp at l3; exact absurd (List.eq_nil_of_length_eq_zero l3.symm) (v3 (by omega))
          · exact h9
        refine ru61SHome (And.intro hH0 (And.intro e3 e4)) ?_; (repeat' (with_reducible refine AndQ.mk ?_ ?_)); (all_goals (try ((with_reducible refine kin ?_); intro K1 hK1)))
        refine awp_cond (t := _) rfl (fun _ => ?_) (fun h => by cases h)
        refine ru61SHome (And.intro hH0 l3) ?_; (repeat' (with_reducible refine AndQ.mk ?_ ?_)); (all_goals (try ((with_reducible refine kin ?_); intro K1 hK1)))
        rw [if_pos h3]; rfl
      · have e3 : (kind == 3) = false := by simp; exact h3
        refine ru61SHome (And.intro hH0 (And.intro e3 e4)) ?_; (repeat' (with_reducible refine AndQ.mk ?_ ?_)); (all_goals (try ((with_reducible refine kin ?_); intro K1 hK1)))
        refine awp_cond (t := _) rfl (fun h => by cases h) (fun _ => ?_)
        refine ru61SHome (And.intro hH0 (And.intro e3 e4)) ?_; (repeat' (with_reducible refine AndQ.mk ?_ ?_)); (all_goals (try ((with_reducible refine kin ?_); intro K1 hK1)))
        refine awp_cond (t := _) rfl (fun h => by cases h) (fun _ => ?_)
        refine ru61SHome trivial ?_; (repeat' (with_reducible refine AndQ.mk ?_ ?_)); (all_goals (try ((with_reducible refine kin ?_); intro K1 hK1)))
        rw [if_neg h3]; rfl
    · rintro _ rfl
      have hev : (if kind = 3 then (kids.length : Int) else 1) ≠ 0 := by
        split
        · have := List.length_pos_iff.2 (v3 (by omega)); omega
        · omega
      have hF : homeF (d + 1) (.mk kind item long many kids shares) (.mk p cs ks) = ((p.tmod (if kind = 3 then (kids.length : Int) else 1) == 0) && (List.range kids.length).all fun j => homeF d (kids.getD j default) (ks.getD j default)) := rfl
      generalize (if kind = 3 then (kids.length : Int) else 1) = ev at *
      rcases hb : (p.tmod ev == 0) with _ | _
      · refine ru61SHome (And.intro hH0 (And.intro w1 (And.intro w2 (And.intro w3 (And.intro w4 (And.intro w5 hb)))))) ?_; (repeat' (with_reducible refine AndQ.mk ?_ ?_)); (all_goals (try ((with_reducible refine kin ?_); intro K1 hK1)))
        refine ⟨.v (.bool false), rfl, True.intro, hK1 _ ?_⟩; clear hK1 K1
        refine ru61SHome (And.intro hH0 (And.intro w1 (And.intro w2 (And.intro w3 (And.intro w4 (And.intro w5 hb)))))) ?_; (repeat' (with_reducible refine AndQ.mk ?_ ?_)); (all_goals (try ((with_reducible refine kin ?_); intro K1 hK1)))
        refine rtG Tryd.results61 ?_
        exact ⟨_, _, Weak.refl _, Hp.le.refl _, by rw [hF, hb]; rfl, rfl⟩
      · refine ru61SHome (And.intro hH0 (And.intro w1 (And.intro w2 (And.intro w3 (And.intro w4 (And.intro w5 hb)))))) ?_; (repeat' (with_reducible refine AndQ.mk ?_ ?_)); (all_goals (try ((with_reducible refine kin ?_); intro K1 hK1)))
        refine hcon.mono ?_
        rintro _ h2 (⟨j, hj, rfl, rfl, hP⟩ | ⟨rfl, rfl, hI⟩)
        · refine ⟨rfl, hK1 _ ?_⟩; clear hK1 K1
          refine ru61SHome (And.intro hH0 (And.intro w1 (And.intro w2 (And.intro w3 (And.intro w4 (And.intro w5 hb)))))) ?_; (repeat' (with_reducible refine AndQ.mk ?_ ?_)); (all_goals (try ((with_reducible refine kin ?_); intro K1 hK1)))
          refine rtG Tryd.results61 ?_
          refine ⟨_, _, Weak.refl _, Hp.le.refl _, ?_, rfl⟩
          rw [hF, hb, Bool.true_and]
          have : (List.range kids.length).all (fun j => homeF d (kids.getD j default) (ks.getD j default)) = false := by
            rw [List.all_eq_false]
            exact ⟨j, by simp; omega, by rw [hP]; simp⟩
          rw [this]
        · refine ⟨rfl, hK1 _ ?_⟩; clear hK1 K1
          refine ru61SHome (And.intro hH0 (And.intro w1 (And.intro w2 (And.intro w3 (And.intro w4 (And.intro w5 hb)))))) ?_; (repeat' (with_reducible refine AndQ.mk ?_ ?_)); (all_goals (try ((with_reducible refine kin ?_); intro K1 hK1)))
          refine rtG Tryd.results61 ?_
          refine ⟨_, _, Weak.refl _, Hp.le.refl _, ?_, rfl⟩
          rw [hF, hb, Bool.true_and]
          have : (List.range kids.length).all (fun j => homeF d (kids.getD j default) (ks.getD j default)) = true := by
            rw [List.all_eq_true]
            exact fun j hj => hI j (by simp at hj; omega)
          rw [this]
end Go.Proofs.YtoleejecmefogaaDoor
