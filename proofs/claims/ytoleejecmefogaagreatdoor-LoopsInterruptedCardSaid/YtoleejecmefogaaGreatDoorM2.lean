/- loop.part.pass: the law of its state. -/
import Derived.Test.YtoleejecmefogaaGreatDoorM1
import Derived.Below
import Derived.Test.YtoleejecmefogaaGreatDoorAvOwn
import Derived.Test.YtoleejecmefogaaGreatDoorAvRun
import Derived.Lib.SlicesCompact
import Derived.Sort.KeysCollected
import Derived.Lib.Hide
namespace Go.Proofs.YtoleejecmefogaaGreatDoor
open Go
set_option linter.unusedVariables false
set_option linter.unusedSimpArgs false
set_option maxRecDepth 100000
abbrev zM20 : Option Tmp → Nat := mdL []
abbrev zM21 : Option Tmp → Nat := mdL [(8, 1)]
abbrev zM22 : Option Tmp → Nat := mdL [(3, 2)]
abbrev zM23 : Option Tmp → Nat := mdL [(2, 1), (6, 1), (8, 1), (12, 2)]
abbrev zM24 : Option Tmp → Nat := mdL [(5, 2)]
abbrev zM25 : Option Tmp → Nat := mdL [(2, 1)]
abbrev zM26 : Option Tmp → Nat := mdL [(6, 1)]
abbrev zM27 : Option Tmp → Nat := mdL [(1, 1)]
abbrev zM28 : Option Tmp → Nat := mdL [(5, 1)]
abbrev zM29 : Option Tmp → Nat := mdL [(1, 1), (2, 1)]
abbrev zM2A : Option Tmp → Nat := mdL [(4, 1), (6, 1), (8, 1)]
abbrev zM2B : Option Tmp → Nat := mdL [(4, 1), (5, 2), (7, 1), (8, 1)]
abbrev zK20 : Nat := 154742654650856545879597411
abbrev zK21 : Nat := 171031419293486646490912486693274495
attribute [go_sem] zM20 zM21 zM22 zM23 zM24 zM25 zM26 zM27 zM28 zM29 zM2A zM2B zK20 zK21
def PassRel (d : Nat) (t : LT) (s : PS) (out : List (ByteArray × Int)) (s' : PS) (out' : List (ByteArray × Int)) : Prop :=
 (5000 < out.length → s' = s ∧ out' = out) ∧ (out.length ≤ 5000 → out.length + (passU d t s).2.length ≤ 5000 → s' = (passU d t s).1 ∧ out' = out ++ (passU d t s).2) ∧
 (out.length ≤ 5000 → 5000 < out.length + (passU d t s).2.length → out'.length = 5001 ∧ PSB d t s' 5001)
def RunR (d : Nat) (kids : List LT) (out : List (ByteArray × Int)) (acc : (List Int × List PS) × List (ByteArray × Int)) (cs : List Int) (ks : List PS) (out' : List (ByteArray × Int)) : Prop :=
 FOk d kids out'.length (cs, ks) ∧ out'.length ≤ 5001 ∧ (out.length + acc.2.length ≤ 5000 → (cs, ks) = acc.1 ∧ out' = out ++ acc.2) ∧ (5000 < out.length + acc.2.length → out'.length = 5001)
theorem set_getD {α : Type} (l : List α) (x : Nat) (d : α) : l.set x (l.getD x d) = l := by
 by_cases h : x < l.length
 ·rw [List.getD_eq_getElem?_getD, List.getElem?_eq_getElem h]; simp
 ·rw [List.set_eq_of_length_le (by omega)]
theorem RunR.step {d : Nat} {kids : List LT} {out : List (ByteArray × Int)} {acc : (List Int × List PS) × List (ByteArray × Int)} {cs : List Int} {ks : List PS} {out' : List (ByteArray × Int)} (hR : RunR d kids out acc cs ks out') {x : Nat} (hx : x < kids.length)
  (hv : VL d (kids.getD x default)) (hf : Fits d (kids.getD x default) (ks.getD x default)) {s'' : PS} {out'' : List (ByteArray × Int)} (hp : PassRel d (kids.getD x default) (ks.getD x default) out' s'' out'') :
  RunR d kids out (stepU (passU d) kids acc x) (if out.length + acc.2.length ≤ 5000 then cs.set x (cs.getD x 0 + 1) else cs) (ks.set x s'') out'' := by
 obtain ⟨h1, h2, h3, h4⟩ := hR
 obtain ⟨p1, p2, p3⟩ := hp
 obtain ⟨⟨f1, f2⟩, f3, f4⟩ := id h1
 have hpo := passU_ok d (kids.getD x default) (ks.getD x default) out'.length hv hf (by omega) (f4 x hx)
 by_cases hex : out.length + acc.2.length ≤ 5000
 ·rw [if_pos hex]
  obtain ⟨e1, e2⟩ := h3 hex
  have e3 : acc.1.1 = cs := by rw [← e1]
  have e4 : acc.1.2 = ks := by rw [← e1]
  have e5 : out'.length = out.length + acc.2.length := by rw [e2, List.length_append]
  have hst : (stepU (passU d) kids acc x).1 = (cs.set x (cs.getD x 0 + 1), ks.set x (passU d (kids.getD x default) (ks.getD x default)).1) := by simp only [stepU, e3, e4]
  have hs2 : (stepU (passU d) kids acc x).2 = acc.2 ++ (passU d (kids.getD x default) (ks.getD x default)).2 := by simp only [stepU, e4]
  by_cases hk : out'.length + (passU d (kids.getD x default) (ks.getD x default)).2.length ≤ 5000
  ·obtain ⟨rfl, rfl⟩ := p2 (by omega) hk
   have hh : FOk d kids out'.length acc.1 := by rw [← e1]; exact h1
   obtain ⟨s1, s2⟩ := stepU_ok (f := passU d) (a := acc) hh hx (by rw [e4]) hpo.1 (by rw [e4]; exact hpo.2.1)
   rw [hst] at s1
   refine ⟨by rw [List.length_append]; exact_mod_cast s1, by rw [List.length_append]; omega, fun _ => ⟨hst.symm, by rw [hs2, e2, List.append_assoc]⟩, fun h => ?_⟩
   rw [hs2, List.length_append] at h; omega
  ·obtain ⟨q1, q2⟩ := p3 (by omega) (by omega)
   have q1' : (out''.length : Int) = 5001 := by omega
   refine ⟨⟨⟨by simpa using f1, by simpa using f2⟩, fun y hy => ?_, fun j hj => ?_⟩, by omega, fun h => ?_, fun _ => q1⟩
   ·rw [q1']
    rcases mem_set_or hy with h | h
    ·have := f3 y h; omega
    ·have := f3 _ (getD_mem' cs x 0 (show x < cs.length from by have : cs.length = kids.length := f1; omega)); omega
   ·rw [q1']
    show PSB d (kids.getD j default) ((ks.set x s'').getD j default) 5001
    by_cases hxj : x = j
    ·subst hxj; rw [getD_setS _ _ _ _ (by have : ks.length = kids.length := f2; omega)]; exact q2
    ·rw [getD_setN _ _ _ _ _ hxj]; exact (f4 j hj).mono (by omega)
   ·rw [hs2, List.length_append] at h; omega
 ·rw [if_neg hex]
  have e5 := h4 (by omega)
  obtain ⟨rfl, rfl⟩ := p1 (by omega)
  rw [set_getD]
  have hs2 : acc.2.length ≤ (stepU (passU d) kids acc x).2.length := by simp [stepU]
  exact ⟨h1, h2, fun h => by omega, fun _ => e5⟩
def oEx : List AV := [.v (.int .i64 5000)]
def St2 (d : Nat) (t : LT) (kids : List LT) (a : AT) (p : Int) (h : Hp) (o k : Nat) (out : List (ByteArray × Int)) (acc : (List Int × List PS) × List (ByteArray × Int)) (h1 : Hp) (cs : List Int) (ks : List PS) (out' : List (ByteArray × Int)) : Prop :=
 RAt XP h1 (d + 1) t a (.mk p cs ks) ∧ OutAt h1 o k oEx out' ∧ FrP a o k h h1 ∧ RunR d kids out acc cs ks out'
def PRp (d : Nat) (t : LT) (a : AT) (s : PS) (h : Hp) (o k : Nat) (out : List (ByteArray × Int)) (r : AV) (h' : Hp) : Prop :=
 r = .tup [] ∧ ∃ s' out', RAt XP h' d t a s' ∧ OutAt h' o k oEx out' ∧ FrP a o k h h' ∧ PassRel d t s out s' out'
theorem RAt.counts {h : Hp} {d : Nat} {kind : Int} {item : ByteArray} {long many : Int} {kids : List LT} {shares : List Int} {a : AT} {p : Int} {cs cs' : List Int} {ks : List PS} (h4 : kind ≠ 4) (hl : cs'.length = cs.length)
  (hR : RAt XP h (d + 1) (.mk kind item long many kids shares) a (.mk p cs ks)) : RAt XP h (d + 1) (.mk kind item long many kids shares) a (.mk p cs' ks) := by
 cases a with
 | mk i c az =>
  obtain ⟨h1, h2, ⟨l1, l2, l3, l4⟩, h5⟩ := hR
  have e : XP.cf kind cs' = XP.cf kind cs := by simp only [XP, if_neg h4, hl]
  exact ⟨h1, by rw [e]; exact h2, ⟨by rw [e]; exact l1, by omega, l3, l4⟩, h5⟩
theorem St2.next {d : Nat} {kind : Int} {item : ByteArray} {long many : Int} {kids : List LT} {shares : List Int} {i c : Nat} {az : List AT} {p : Int} {h : Hp} {o k : Nat} {out : List (ByteArray × Int)} {acc : (List Int × List PS) × List (ByteArray × Int)} {h1 : Hp} {cs : List Int} {ks : List PS} {out' : List (ByteArray × Int)}
  (hs : St2 d (.mk kind item long many kids shares) kids (.mk i c az) p h o k out acc h1 cs ks out') (h4 : kind ≠ 4) (hS : Sep (d + 1) (.mk i c az)) (ho : o ∉ idsT (.mk i c az)) {x : Nat} (hx : x < kids.length) (hv : VL d (kids.getD x default))
  {r : AV} {h3 : Hp} (hp : PRp d (kids.getD x default) (az.getD x default) (ks.getD x default) h1 o k out' r h3) : ∃ cs' ks' out'', St2 d (.mk kind item long many kids shares) kids (.mk i c az) p h o k out (stepU (passU d) kids acc x) h3 cs' ks' out'' := by
 obtain ⟨g1, g2, g3, g4⟩ := hs
 obtain ⟨rfl, s', out'', r1, r2, r3, r4⟩ := hp
 obtain ⟨_, _, ⟨l1, l2, l3, l4⟩, hk⟩ := id g1
 have hkt := g1.tokNe g2.2
 refine ⟨if out.length + acc.2.length ≤ 5000 then cs.set x (cs.getD x 0 + 1) else cs, ks.set x s', out'', (g1.kid hS ho hkt hx r1 r3).counts h4 (by split <;> simp), r2, g3.trans (r3.kid (by omega)), g4.step hx hv (hk x hx).fits r4⟩
theorem St2.ask {d : Nat} {kind : Int} {item : ByteArray} {long many : Int} {kids : List LT} {shares : List Int} {i c : Nat} {az : List AT} {p : Int} {h : Hp} {o k : Nat} {out : List (ByteArray × Int)} {acc : (List Int × List PS) × List (ByteArray × Int)} {h1 : Hp} {cs : List Int} {ks : List PS} {out' : List (ByteArray × Int)}
  (hs : St2 d (.mk kind item long many kids shares) kids (.mk i c az) p h o k out acc h1 cs ks out') (hS : Sep (d + 1) (.mk i c az)) (ho : o ∉ idsT (.mk i c az)) {x : Nat} (hx : x < kids.length) :
  RAt XP h1 d (kids.getD x default) (az.getD x default) (ks.getD x default) ∧ Sep d (az.getD x default) ∧ PSB d (kids.getD x default) (ks.getD x default) out'.length ∧ OutAt h1 o k oEx out' ∧ o ∉ idsT (az.getD x default) ∧ out'.length ≤ 5001 := by
 obtain ⟨g1, g2, g3, g4⟩ := hs
 obtain ⟨_, _, ⟨l1, l2, l3, l4⟩, hk⟩ := id g1
 exact ⟨hk x hx, (hS x (by omega)).1.2.2, g4.1.2.2 x hx, g2, fun hh => ho (idsT_kid (by omega) hh), g4.2.1⟩
theorem St2.cells {d : Nat} {kind : Int} {item : ByteArray} {long many : Int} {kids : List LT} {shares : List Int} {i c : Nat} {az : List AT} {p : Int} {h : Hp} {o k : Nat} {out : List (ByteArray × Int)} {acc : (List Int × List PS) × List (ByteArray × Int)} {h1 : Hp} {cs : List Int} {ks : List PS} {out' : List (ByteArray × Int)}
  (hs : St2 d (.mk kind item long many kids shares) kids (.mk i c az) p h o k out acc h1 cs ks out') (hne : kids ≠ []) : (∃ tk, h1.H i = some (.cells [.v (.int .i64 kind), .v (.string item), .v (.int .i64 long), .v (.int .i64 many), .row 6 (kids.map encL) none, .row 1 (shares.map encI) none, .row 1 (az.map fun a => [.ptr a.id 0]) tk, .v (.int .i64 p), .arr 1 c kids.length, .v (.int .i64 shares.sum)])) ∧ az.length = kids.length := by
 obtain ⟨⟨⟨K, h1, hK⟩, _, ⟨l1, l2, l3, l4⟩, _⟩, _⟩ := hs
 refine ⟨?_, l3⟩
 rcases hK with ⟨rfl, _⟩ | ⟨tk, rfl⟩
 ·simp at l3; exact absurd (List.eq_nil_of_length_eq_zero l3.symm) hne
 ·exact ⟨tk, h1⟩
open Nat renaming reduceAdd → nA, reduceSub → nB, reduceMul → nC, reduceLT → nD, reduceLeDiff → nE, reduceEqDiff → nF, reduceMod → nG, reduceDiv → nH, reducePow → nI
abbrev zPGE : List Nat := [0, 1, 2, 3, 4, 5, 6, 7, 8, 9, 10, 11, 12, 13, 14, 15, 16]
abbrev zPGP : List (Nat × List Nat × List Nat) := [(17, [], [18, 19]), (20, [], [])]
abbrev zPHE : List Nat := [0, 1, 2, 3, 4, 5, 6, 7, 8, 9, 10, 11, 12, 13, 14, 15, 16]
abbrev zPHP : List (Nat × List Nat × List Nat) := [(17, [], [])]
attribute [go_sem] zPGE zPGP zPHE zPHP
set_option maxHeartbeats 8000000
def PassJp (d : Nat) (kind : Int) (item : ByteArray) (long many : Int) (kids : List LT) (shares : List Int) (i c0 : Nat) (az : List AT) (p : Int) (cs : List Int) (ks : List PS) (h : Hp) (o k : Nat) (out : List (ByteArray × Int)) (s : St) : Prop :=
 ∃ h1 cs' ks' out', St2 d (.mk kind item long many kids shares) kids (.mk i c0 az) p h o k out ((idxL kind p many kids.length (nextF shares p cs)).foldl (stepU (passU d) kids) ((cs, ks), if kind = 1 then [(item, long)] else [])) h1 cs' ks' out' ∧
  s = ⟨((.ptr i 0) :: (.ptr o 0) :: (jnk 114 [])), [], h1⟩
theorem g_passP : ∀ (d : Nat) (t : LT) (a : AT) (s : PS) (h : Hp) (o k : Nat) (out : List (ByteArray × Int)), VL d t → RAt XP h d t a s → Sep d a → PSB d t s out.length → OutAt h o k oEx out → o ∉ idsT a → out.length ≤ 5001 →
  ACalls Tryz.prog 132 [.ptr a.id 0, .ptr o 0] h (PRp d t a s h o k out)
 | 0, _, _, _, _, _, _, _, hv, _, _, _, _, _, _ => hv.elim
 | d + 1, .mk kind item long many kids shares, .mk i c0 az, .mk p cs ks, h, o, k, out, hv, hR, hS, hB, hO, ho, hout => by
  have hfit := hR.fits
  have hkt := hR.tokNe hO.2
  obtain ⟨v1, v2, v3, v4, v5, v6, v7, v8⟩ := id hv
  obtain ⟨⟨K, hH, hK⟩, hT, ⟨l1, l2, l3, l4⟩, hkids⟩ := id hR
  have hH0 : h.H i = some (.cells [.v (.int .i64 kind), .v (.string item), .v (.int .i64 long), .v (.int .i64 many), .row 6 (kids.map encL) none, .row 1 (shares.map encI) none, K, .v (.int .i64 p), .arr 1 c0 kids.length, .v (.int .i64 shares.sum)]) := hH
  have hO1 : h.H o = some (.cells [.row 2 (out.map encStep) (some k), .v (.int .i64 5000)]) := hO.1
  have hO2 : h.T k = some (.tail out.length) := hO.2
  have hfr0 : FrP (.mk i c0 az) o k h h := ⟨fun _ _ _ => rfl, fun _ _ _ => rfl⟩
  show ACalls Tryz.prog 132 [.ptr i 0, .ptr o 0] h _
  refine gE Tryz.func132 rfl (by kernel_rfl) 114 rfl fun c => ?_
  (repeat (first | refine gO rfl ?_ | ((((with_reducible refine yS ?_); refine awp_keep zK20 100 (kS ?_))) <;> ((try with_reducible intro K1 hK1); simp only [go_sem, ↓reduceIte, reduceCtorEq, nA, nB, nC, nD, nE, nF, nG, nH, nI] <;> and_intros))))
  refine (g_full28 o k h out hO).mono ?_; rintro _ hz ⟨rfl, hh⟩; apply hK1; clear hK1 K1; rw [hh]; clear hh hz
  (repeat ((refine gO rfl ?_)))
  refine awp_cond (t := _) rfl (fun hf => ?_) (fun hf => ?_)
  ·(repeat ((refine gO rfl ?_)))
   simp only [Tryz.results132, go_sem, ↓reduceIte, reduceCtorEq, nA, nB, nC, nD, nE, nF]
   simp only [decide_eq_true_eq] at hf
   exact ⟨_, _, Weak.refl _, Hp.le.refl _, rfl, _, out, hR, hO, hfr0, fun _ => ⟨rfl, rfl⟩, fun h => by omega, fun h => by omega⟩
  simp only [decide_eq_false_iff_not] at hf
  have hpn : 0 ≤ p ∧ p ≤ 5000 := by have := hB.1; omega
  have hcn : ∀ x ∈ cs, 0 ≤ x ∧ x ≤ 1000000 := fun x hx => by have := hB.2.1 x hx; omega
  (repeat ((refine gQ rfl ?_)))
  refine awp_seq ?_
  refine awp_join (rl false [0, 2, 114]) 0 (fun s => PassJp d kind item long many kids shares i c0 az p cs ks h o k out s) ?_ ?_
  ·rcases (show kind = 1 ∨ kind = 2 ∨ kind = 3 ∨ kind = 4 ∨ kind = 5 by omega) with rfl | rfl | rfl | rfl | rfl
   ·(repeat (first | refine gO rfl ?_ | ((((with_reducible refine yS ?_); refine awp_keep zK20 100 (kS ?_))) <;> ((try with_reducible intro K1 hK1); simp only [go_sem, ↓reduceIte, reduceCtorEq, nA, nB, nC, nD, nE, nF, hH0, nG, nH, nI] <;> and_intros <;> (apply hK1; clear hK1 K1)))))
    refine awp_cond (t := _) rfl (fun _ => ?_) (fun h1 => by cases h1)
    (repeat (first | refine gO rfl ?_ | ((first | refine gR ?_ | (with_reducible refine wM ?_ ?_) | ((with_reducible refine xR ?_); refine awp_keep zK20 100 (uE 7 zM20 zPGE zPGP 116 rfl (by kernel_rfl) ?_))) <;> ((try with_reducible intro K1 hK1); simp only [go_sem, ↓reduceIte, reduceCtorEq, nA, nB, nC, nD, nE, nF, hH0, hO1, hO2, nG, nH, nI] <;> and_intros <;> first | (apply hK1; clear hK1 K1) | (intros; first | omega | decide)))))
    have hix : idxL 1 p many kids.length (nextF shares p cs) = [] := by simp [idxL]
    refine ⟨{ H := upd h.H o (some (.cells [.row 2 (out.map encStep ++ [[.v (.string item), .v (.int .i64 long)]]) (some k), .v (.int .i64 5000)])), T := upd h.T k (some (.tail (out.length + 1))) }, cs, ks, out ++ [(item, long)], ⟨hR.frame (fun x hx => upd_other _ _ (fun e => by subst e; exact ho hx)) (fun x hx => upd_other _ _ (fun e => by subst e; exact hkt hx)), ⟨?_, ?_⟩, ⟨fun x _ hx => upd_other _ _ hx, fun x _ hx => upd_other _ _ hx⟩, ?_⟩, rfl⟩
    ·rw [show (out ++ [(item, long)]).map encStep = out.map encStep ++ [[.v (.string item), .v (.int .i64 long)]] by simp [encStep]]
     exact upd_same _ _ _
    ·rw [show (out ++ [(item, long)]).length = out.length + 1 by simp]
     exact upd_same _ _ _
    ·rw [hix]
     have e7 : (out ++ [(item, long)]).length = out.length + 1 := by simp
     refine ⟨⟨⟨l2, l4⟩, fun x hx => ?_, fun j hj => (hB.2.2 j hj).mono (by omega)⟩, by omega, fun _ => ⟨rfl, by simp⟩, fun h => ?_⟩
     ·have := hB.2.1 x hx; omega
     ·simp at h; omega
   ·have hs0 : St2 d (.mk 2 item long many kids shares) kids (.mk i c0 az) p h o k out ((cs, ks), []) h cs ks out := ⟨hR, hO, hfr0, ⟨⟨l2, l4⟩, hB.2.1, hB.2.2⟩, by omega, fun _ => ⟨rfl, by simp⟩, fun h => by simp only [List.length_nil] at h; omega⟩
    obtain ⟨⟨tk, hC0⟩, hz0⟩ := hs0.cells (v3 (by omega))
    have hKe := hH0.symm.trans hC0
    simp only [Option.some.injEq, AO.cells.injEq, List.cons.injEq, true_and, and_true] at hKe
    subst hKe
    (repeat (first | refine gO rfl ?_ | ((((with_reducible refine yS ?_); refine awp_keep zK20 100 (kS ?_))) <;> ((try with_reducible intro K1 hK1); simp only [go_sem, ↓reduceIte, reduceCtorEq, nA, nB, nC, nD, nE, nF, hH0, nG, nH, nI] <;> and_intros <;> (apply hK1; clear hK1 K1)))))
    refine awp_cond (t := _) rfl (fun h1 => by cases h1) (fun _ => ?_)
    (repeat (first | refine gO rfl ?_ | ((((with_reducible refine yS ?_); refine awp_keep zK20 100 (kS ?_))) <;> ((try with_reducible intro K1 hK1); simp only [go_sem, ↓reduceIte, reduceCtorEq, nA, nB, nC, nD, nE, nF, hH0, nG, nH, nI] <;> and_intros <;> (apply hK1; clear hK1 K1)))))
    refine awp_cond (t := _) rfl (fun _ => ?_) (fun h1 => by cases h1)
    (repeat (first | refine gO rfl ?_ | ((((with_reducible refine yS ?_); refine awp_keep zK20 100 (kS ?_))) <;> ((try with_reducible intro K1 hK1); simp only [go_sem, ↓reduceIte, reduceCtorEq, nA, nB, nC, nD, nE, nF, hH0, nG, nH, nI] <;> and_intros <;> (apply hK1; clear hK1 K1)))))
    have hix : idxL 2 p many kids.length (nextF shares p cs) = List.range kids.length := by simp [idxL]
    refine awp_loopC (rl false [0, 2, 55, 3, 56]) 0 (fun g s => ∃ (j : Nat) (h1 : Hp) (cs' : List Int) (ks' : List PS) (out' : List (ByteArray × Int)), g + j = kids.length ∧ St2 d (.mk 2 item long many kids shares) kids (.mk i c0 az) p h o k out ((List.range j).foldl (stepU (passU d) kids) ((cs, ks), [])) h1 cs' ks' out' ∧
     s = ⟨((.ptr i 0) :: (.ptr o 0) :: (jnk 55 ((.row 1 (az.map fun a => [.ptr a.id 0]) tk) :: (.v (.int .i64 kids.length)) :: (.v (.int .i64 j)) :: (jnk 56 [])))), [], h1⟩) kids.length ⟨0, h, cs, ks, out, by omega, hs0, by rw [← hz0]; rfl⟩ ?_
    rintro g _ ⟨j, h1, cs', ks', out', hj, hs, rfl⟩
    (repeat (first | refine gO rfl ?_ | ((((with_reducible refine yS ?_); refine awp_keep zK20 100 (kS ?_))) <;> ((try with_reducible intro K1 hK1); simp only [go_sem, ↓reduceIte, reduceCtorEq, nA, nB, nC, nD, nE, nF, nG, nH, nI] <;> and_intros <;> (apply hK1; clear hK1 K1)))))
    refine awp_cond (t := _) rfl (fun h2 => ?_) (fun h2 => ?_)
    ·simp only [decide_eq_true_eq] at h2
     have hx : j < kids.length := by omega
     have hgz : (az.map fun a : AT => [AV.ptr a.id 0]).getD j [] = [.ptr (az.getD j default).id 0] := getD_enc (fun a : AT => [AV.ptr a.id 0]) az j default (by omega)
     obtain ⟨a1, a2, a3, a4, a5, a6⟩ := hs.ask hS ho hx
     (repeat (first | refine gO rfl ?_ | ((first | ((with_reducible refine yS ?_); refine awp_keep zK20 100 (kS ?_)) | ((with_reducible refine yR ?_); refine awp_keep zK20 100 (kR ?_))) <;> ((try with_reducible intro K1 hK1); simp only [go_sem, ↓reduceIte, reduceCtorEq, nA, nB, nC, nD, nE, nF, Int.toNat_natCast, hgz, hz0, nG, nH, nI] <;> and_intros <;> first | (apply hK1; clear hK1 K1) | (intros; (omega)) | skip))))
     refine (g_passP d _ _ _ h1 o k out' (v8 _ (getD_mem' kids j default hx)) a1 a2 a3 a4 a5 a6).mono ?_
     intro r h3 hres
     obtain ⟨cs2, ks2, out2, hs2⟩ := hs.next (by omega) hS ho hx (v8 _ (getD_mem' kids j default hx)) hres
     obtain ⟨rfl, _⟩ := hres
     refine hK1 _ ?_; clear hK1 K1
     (repeat (first | refine gO rfl ?_ | ((((with_reducible refine yR ?_); refine awp_keep zK20 100 (kR ?_))) <;> ((try with_reducible intro K1 hK1); simp only [go_sem, ↓reduceIte, reduceCtorEq, nA, nB, nC, nD, nE, nF, nG, nH, nI] <;> and_intros <;> first | (apply hK1; clear hK1 K1) | (intros; (omega))))))
     exact ⟨g - 1, by omega, j + 1, h3, cs2, ks2, out2, by omega, by rw [List.range_succ, List.foldl_append]; exact hs2, rfl⟩
    ·simp only [decide_eq_false_iff_not] at h2
     have hjk : j = kids.length := by omega
     subst hjk
     (repeat ((refine gO rfl ?_)))
     exact ⟨h1, cs', ks', out', by rw [hix]; exact hs, rfl⟩
   ·have hs0 : St2 d (.mk 3 item long many kids shares) kids (.mk i c0 az) p h o k out ((cs, ks), []) h cs ks out := ⟨hR, hO, hfr0, ⟨⟨l2, l4⟩, hB.2.1, hB.2.2⟩, by omega, fun _ => ⟨rfl, by simp⟩, fun h => by simp only [List.length_nil] at h; omega⟩
    obtain ⟨⟨tk, hC0⟩, hz0⟩ := hs0.cells (v3 (by omega))
    have hKe := hH0.symm.trans hC0
    simp only [Option.some.injEq, AO.cells.injEq, List.cons.injEq, true_and, and_true] at hKe
    subst hKe
    (repeat (first | refine gO rfl ?_ | ((((with_reducible refine yS ?_); refine awp_keep zK20 100 (kS ?_))) <;> ((try with_reducible intro K1 hK1); simp only [go_sem, ↓reduceIte, reduceCtorEq, nA, nB, nC, nD, nE, nF, hH0, nG, nH, nI] <;> and_intros <;> (apply hK1; clear hK1 K1)))))
    refine awp_cond (t := _) rfl (fun h1 => by cases h1) (fun _ => ?_)
    (repeat (first | refine gO rfl ?_ | ((((with_reducible refine yS ?_); refine awp_keep zK20 100 (kS ?_))) <;> ((try with_reducible intro K1 hK1); simp only [go_sem, ↓reduceIte, reduceCtorEq, nA, nB, nC, nD, nE, nF, hH0, nG, nH, nI] <;> and_intros <;> (apply hK1; clear hK1 K1)))))
    refine awp_cond (t := _) rfl (fun h1 => by cases h1) (fun _ => ?_)
    (repeat (first | refine gO rfl ?_ | ((((with_reducible refine yS ?_); refine awp_keep zK20 100 (kS ?_))) <;> ((try with_reducible intro K1 hK1); simp only [go_sem, ↓reduceIte, reduceCtorEq, nA, nB, nC, nD, nE, nF, hH0, nG, nH, nI] <;> and_intros <;> (apply hK1; clear hK1 K1)))))
    refine awp_cond (t := _) rfl (fun _ => ?_) (fun h1 => by cases h1)
    have hnk : 0 < kids.length := List.length_pos_iff.2 (v3 (by omega))
    have htm := Int.tmod_lt_of_pos p (show (0 : Int) < kids.length by omega)
    have htn := Int.tmod_nonneg (kids.length : Int) hpn.1
    have hix : idxL 3 p many kids.length (nextF shares p cs) = [(p.tmod kids.length).toNat] := by simp [idxL]
    have hx : (p.tmod kids.length).toNat < kids.length := by omega
    have hgz : (az.map fun a : AT => [AV.ptr a.id 0]).getD (p.tmod kids.length).toNat [] = [.ptr (az.getD (p.tmod kids.length).toNat default).id 0] := getD_enc (fun a : AT => [AV.ptr a.id 0]) az _ default (by omega)
    obtain ⟨a1, a2, a3, a4, a5, a6⟩ := hs0.ask hS ho hx
    (repeat (((first | refine gR ?_ | ((with_reducible refine xR ?_); refine awp_keep zK20 100 (uE 15 zM20 zPHE zPHP 116 rfl (by kernel_rfl) ?_))) <;> ((try with_reducible intro K1 hK1); simp only [go_sem, ↓reduceIte, reduceCtorEq, nA, nB, nC, nD, nE, nF, hH0, hz0, hgz, nG, nH, nI] <;> and_intros <;> first | (apply hK1; clear hK1 K1) | (intros; (omega)) | skip))))
    refine (g_passP d _ _ _ h o k out (v8 _ (getD_mem' kids _ default hx)) a1 a2 a3 a4 a5 a6).mono ?_
    intro r h3 hres
    obtain ⟨cs2, ks2, out2, hs2⟩ := hs0.next (by omega) hS ho hx (v8 _ (getD_mem' kids _ default hx)) hres
    obtain ⟨rfl, _⟩ := hres
    refine hK1 _ ?_; clear hK1 K1
    (repeat (first | refine gO rfl ?_ | (((with_reducible refine wM ?_ ?_)) <;> ((try with_reducible intro K1 hK1); simp only [go_sem, ↓reduceIte, reduceCtorEq, nA, nB, nC, nD, nE, nF, nG, nH, nI] <;> and_intros <;> (apply hK1; clear hK1 K1)))))
    exact ⟨h3, cs2, ks2, out2, by rw [hix]; exact hs2, rfl⟩
   ·have hs0 : St2 d (.mk 4 item long many kids shares) kids (.mk i c0 az) p h o k out ((cs, ks), []) h cs ks out := ⟨hR, hO, hfr0, ⟨⟨l2, l4⟩, hB.2.1, hB.2.2⟩, by omega, fun _ => ⟨rfl, by simp⟩, fun h => by simp only [List.length_nil] at h; omega⟩
    obtain ⟨⟨tk, hC0⟩, hz0⟩ := hs0.cells (v3 (by omega))
    have hKe := hH0.symm.trans hC0
    simp only [Option.some.injEq, AO.cells.injEq, List.cons.injEq, true_and, and_true] at hKe
    subst hKe
    (repeat (first | refine gO rfl ?_ | ((((with_reducible refine yS ?_); refine awp_keep zK20 100 (kS ?_))) <;> ((try with_reducible intro K1 hK1); simp only [go_sem, ↓reduceIte, reduceCtorEq, nA, nB, nC, nD, nE, nF, hH0, nG, nH, nI] <;> and_intros <;> (apply hK1; clear hK1 K1)))))
    refine awp_cond (t := _) rfl (fun h1 => by cases h1) (fun _ => ?_)
    (repeat (first | refine gO rfl ?_ | ((((with_reducible refine yS ?_); refine awp_keep zK20 100 (kS ?_))) <;> ((try with_reducible intro K1 hK1); simp only [go_sem, ↓reduceIte, reduceCtorEq, nA, nB, nC, nD, nE, nF, hH0, nG, nH, nI] <;> and_intros <;> (apply hK1; clear hK1 K1)))))
    refine awp_cond (t := _) rfl (fun h1 => by cases h1) (fun _ => ?_)
    (repeat (first | refine gO rfl ?_ | ((((with_reducible refine yS ?_); refine awp_keep zK20 100 (kS ?_))) <;> ((try with_reducible intro K1 hK1); simp only [go_sem, ↓reduceIte, reduceCtorEq, nA, nB, nC, nD, nE, nF, hH0, nG, nH, nI] <;> and_intros <;> (apply hK1; clear hK1 K1)))))
    refine awp_cond (t := _) rfl (fun h1 => by cases h1) (fun _ => ?_)
    (repeat (first | refine gO rfl ?_ | ((((with_reducible refine yS ?_); refine awp_keep zK20 100 (kS ?_))) <;> ((try with_reducible intro K1 hK1); simp only [go_sem, ↓reduceIte, reduceCtorEq, nA, nB, nC, nD, nE, nF, hH0, nG, nH, nI] <;> and_intros <;> (apply hK1; clear hK1 K1)))))
    refine awp_cond (t := _) rfl (fun _ => ?_) (fun h1 => by cases h1)
    have hsl := v5 rfl
    have hnk : 0 < kids.length := List.length_pos_iff.2 (v3 (by omega))
    have hx : nextF shares p cs < kids.length := by rw [← hsl]; exact bestTo_lt _ _ (by omega)
    have hix : idxL 4 p many kids.length (nextF shares p cs) = [nextF shares p cs] := by simp [idxL]
    have hT0 : h.T c0 = some (.cont 1 (cs.map encI)) := hT
    have hH4 := hH0
    rw [← hsl] at hH4
    (repeat (((((with_reducible refine yS ?_); refine awp_keep zK20 100 (kS ?_))) <;> ((try with_reducible intro K1 hK1); simp only [go_sem, ↓reduceIte, reduceCtorEq, nA, nB, nC, nD, nE, nF, nG, nH, nI] <;> and_intros))))
    refine (g_behind45 4 item long many (.row 6 (kids.map encL) none) shares (.row 1 (az.map fun a => [.ptr a.id 0]) tk) p i c0 cs h hH4 hT0 (by omega) (by omega) v6 (by omega) hcn).mono ?_; rintro _ hz ⟨rfl, hh⟩; apply hK1; clear hK1 K1; rw [hh]; clear hh hz
    have hcl : cs.length = kids.length := l2
    have hgc : (cs.map encI).getD (nextF shares p cs) [] = encI (cs.getD (nextF shares p cs) 0) := getD_enc encI cs _ 0 (by omega)
    have hcb := hcn _ (getD_mem' cs (nextF shares p cs) 0 (by omega))
    have hgz : (az.map fun a : AT => [AV.ptr a.id 0]).getD (nextF shares p cs) [] = [.ptr (az.getD (nextF shares p cs) default).id 0] := getD_enc (fun a : AT => [AV.ptr a.id 0]) az _ default (by omega)
    generalize hxe : nextF shares p cs = x at *
    (repeat (first | refine gO rfl ?_ | ((first | ((with_reducible refine yS ?_); refine awp_keep zK20 100 (kS ?_)) | ((with_reducible refine yR ?_); refine awp_keep zK20 100 (kR ?_)) | refine gR ?_) <;> ((try with_reducible intro K1 hK1); simp only [go_sem, ↓reduceIte, reduceCtorEq, nA, nB, nC, nD, nE, nF, hH0, hT0, hcl, hgc, hz0, hgz, Int.toNat_natCast, encI, nG, nH, nI] <;> and_intros <;> first | (apply hK1; clear hK1 K1) | (intros; (omega)) | skip))))
    have hck : c0 ≠ k := fun e => hkt (by rw [toksT_eq, e]; simp)
    have hR4 := hR.count hS (cs' := cs.set x (cs.getD x 0 + 1)) (by simp) (by simp [XP]; omega)
    rw [show XP.cf 4 (cs.set x (cs.getD x 0 + 1)) = cs.set x (cs.getD x 0 + 1) from rfl, List.map_set] at hR4
    have hO4 : OutAt { h with T := upd h.T c0 (some (.cont 1 ((cs.map encI).set x (encI (cs.getD x 0 + 1))))) } o k oEx out := ⟨hO.1, (upd_other _ _ (fun e => hck e.symm)).trans hO.2⟩
    have hk4 := hR4.2.2.2 x hx
    have hF4 : FrP (.mk i c0 az) o k h { h with T := upd h.T c0 (some (.cont 1 ((cs.map encI).set x (encI (cs.getD x 0 + 1))))) } := ⟨fun _ _ _ => rfl, fun y hy _ => upd_other _ _ (fun e => hy (by rw [toksT_eq, e]; simp))⟩
    refine (g_passP d _ _ _ _ o k out (v8 _ (getD_mem' kids x default hx)) hk4 (hS x (by omega)).1.2.2 (hB.2.2 x hx) hO4 (fun hh => ho (idsT_kid (by omega) hh)) hout).mono ?_
    rintro r h3 ⟨rfl, s', out2, r1, r2, r3, r4⟩
    refine hK1 _ ?_; clear hK1 K1
    (repeat ((refine gO rfl ?_)))
    have hst := hs0.2.2.2.step hx (v8 _ (getD_mem' kids x default hx)) hk4.fits r4
    rw [if_pos (by simp only [List.length_nil]; omega)] at hst
    exact ⟨h3, _, _, out2, ⟨hR4.kid hS ho (hR4.tokNe hO4.2) hx r1 r3, r2, hF4.trans (r3.kid (by omega)), by rw [hxe, hix]; exact hst⟩, rfl⟩
   ·have hs0 : St2 d (.mk 5 item long many kids shares) kids (.mk i c0 az) p h o k out ((cs, ks), []) h cs ks out := ⟨hR, hO, hfr0, ⟨⟨l2, l4⟩, hB.2.1, hB.2.2⟩, by omega, fun _ => ⟨rfl, by simp⟩, fun h => by simp only [List.length_nil] at h; omega⟩
    obtain ⟨⟨tk, hC0⟩, hz0⟩ := hs0.cells (v3 (by omega))
    have hKe := hH0.symm.trans hC0
    simp only [Option.some.injEq, AO.cells.injEq, List.cons.injEq, true_and, and_true] at hKe
    subst hKe
    (repeat (first | refine gO rfl ?_ | ((((with_reducible refine yS ?_); refine awp_keep zK20 100 (kS ?_))) <;> ((try with_reducible intro K1 hK1); simp only [go_sem, ↓reduceIte, reduceCtorEq, nA, nB, nC, nD, nE, nF, hH0, nG, nH, nI] <;> and_intros <;> (apply hK1; clear hK1 K1)))))
    refine awp_cond (t := _) rfl (fun h1 => by cases h1) (fun _ => ?_)
    (repeat (first | refine gO rfl ?_ | ((((with_reducible refine yS ?_); refine awp_keep zK20 100 (kS ?_))) <;> ((try with_reducible intro K1 hK1); simp only [go_sem, ↓reduceIte, reduceCtorEq, nA, nB, nC, nD, nE, nF, hH0, nG, nH, nI] <;> and_intros <;> (apply hK1; clear hK1 K1)))))
    refine awp_cond (t := _) rfl (fun h1 => by cases h1) (fun _ => ?_)
    (repeat (first | refine gO rfl ?_ | ((((with_reducible refine yS ?_); refine awp_keep zK20 100 (kS ?_))) <;> ((try with_reducible intro K1 hK1); simp only [go_sem, ↓reduceIte, reduceCtorEq, nA, nB, nC, nD, nE, nF, hH0, nG, nH, nI] <;> and_intros <;> (apply hK1; clear hK1 K1)))))
    refine awp_cond (t := _) rfl (fun h1 => by cases h1) (fun _ => ?_)
    (repeat (first | refine gO rfl ?_ | ((((with_reducible refine yS ?_); refine awp_keep zK20 100 (kS ?_))) <;> ((try with_reducible intro K1 hK1); simp only [go_sem, ↓reduceIte, reduceCtorEq, nA, nB, nC, nD, nE, nF, hH0, nG, nH, nI] <;> and_intros <;> (apply hK1; clear hK1 K1)))))
    refine awp_cond (t := _) rfl (fun h1 => by cases h1) (fun _ => ?_)
    have hm5 := v4 rfl
    have hx : 0 < kids.length := by omega
    (repeat (first | refine gO rfl ?_ | ((((with_reducible refine yS ?_); refine awp_keep zK20 100 (kS ?_))) <;> ((try with_reducible intro K1 hK1); simp only [go_sem, ↓reduceIte, reduceCtorEq, nA, nB, nC, nD, nE, nF, hH0, nG, nH, nI] <;> and_intros <;> (apply hK1; clear hK1 K1)))))
    have hix : idxL 5 p many kids.length (nextF shares p cs) = List.replicate many.toNat 0 := by simp [idxL]
    refine awp_loopC (rl false [0, 2, 16, 2, 96]) 0 (fun g s => ∃ (j : Nat) (h1 : Hp) (cs' : List Int) (ks' : List PS) (out' : List (ByteArray × Int)), g + j = many.toNat ∧ St2 d (.mk 5 item long many kids shares) kids (.mk i c0 az) p h o k out ((List.replicate j 0).foldl (stepU (passU d) kids) ((cs, ks), [])) h1 cs' ks' out' ∧
     s = ⟨((.ptr i 0) :: (.ptr o 0) :: (jnk 16 ((.v (.int .i64 many)) :: (.v (.int .i64 j)) :: (jnk 96 [])))), [], h1⟩) many.toNat ⟨0, h, cs, ks, out, by omega, hs0, rfl⟩ ?_
    rintro g _ ⟨j, h1, cs', ks', out', hj, hs, rfl⟩
    (repeat (first | refine gO rfl ?_ | ((((with_reducible refine yS ?_); refine awp_keep zK20 100 (kS ?_))) <;> ((try with_reducible intro K1 hK1); simp only [go_sem, ↓reduceIte, reduceCtorEq, nA, nB, nC, nD, nE, nF, nG, nH, nI] <;> and_intros <;> (apply hK1; clear hK1 K1)))))
    refine awp_cond (t := _) rfl (fun h2 => ?_) (fun h2 => ?_)
    ·simp only [decide_eq_true_eq] at h2
     have hgz : (az.map fun a : AT => [AV.ptr a.id 0]).getD 0 [] = [.ptr (az.getD 0 default).id 0] := getD_enc (fun a : AT => [AV.ptr a.id 0]) az 0 default (by omega)
     obtain ⟨a1, a2, a3, a4, a5, a6⟩ := hs.ask hS ho hx
     obtain ⟨⟨tk1, hC1⟩, _⟩ := hs.cells (v3 (by omega))
     have hgz0 : ∀ tz, (az.map fun a : AT => [AV.ptr a.id 0]).getD (Int.toNat 0) tz = (az.map fun a : AT => [AV.ptr a.id 0]).getD 0 tz := fun _ => rfl
     (repeat (first | refine gO rfl ?_ | ((((with_reducible refine yR ?_); refine awp_keep zK20 100 (kR ?_))) <;> ((try with_reducible intro K1 hK1); simp only [go_sem, ↓reduceIte, reduceCtorEq, nA, nB, nC, nD, nE, nF, hC1, hgz0, hgz, hz0, nG, nH, nI] <;> and_intros <;> first | (intros; (omega)) | skip))))
     refine (g_passP d _ _ _ h1 o k out' (v8 _ (getD_mem' kids 0 default hx)) a1 a2 a3 a4 a5 a6).mono ?_
     intro r h3 hres
     obtain ⟨cs2, ks2, out2, hs2⟩ := hs.next (by omega) hS ho hx (v8 _ (getD_mem' kids 0 default hx)) hres
     obtain ⟨rfl, _⟩ := hres
     refine hK1 _ ?_; clear hK1 K1
     (repeat (first | refine gO rfl ?_ | ((((with_reducible refine yR ?_); refine awp_keep zK20 100 (kR ?_))) <;> ((try with_reducible intro K1 hK1); simp only [go_sem, ↓reduceIte, reduceCtorEq, nA, nB, nC, nD, nE, nF, nG, nH, nI] <;> and_intros <;> first | (apply hK1; clear hK1 K1) | (intros; (omega))))))
     exact ⟨g - 1, by omega, j + 1, h3, cs2, ks2, out2, by omega, by rw [List.replicate_succ', List.foldl_append]; exact hs2, rfl⟩
    ·simp only [decide_eq_false_iff_not] at h2
     have hjk : j = many.toNat := by omega
     subst hjk
     (repeat ((refine gO rfl ?_)))
     exact ⟨h1, cs', ks', out', by rw [hix]; exact hs, rfl⟩
  ·rintro _ ⟨h1, cs', ks', out', ⟨g1, g2, g3, g4⟩, rfl⟩
   obtain ⟨⟨K1', hH1, hK1'⟩, hT1, ⟨m1, m2, m3, m4⟩, hk1⟩ := id g1
   have hH10 : h1.H i = some (.cells [.v (.int .i64 kind), .v (.string item), .v (.int .i64 long), .v (.int .i64 many), .row 6 (kids.map encL) none, .row 1 (shares.map encI) none, K1', .v (.int .i64 p), .arr 1 c0 kids.length, .v (.int .i64 shares.sum)]) := hH1
   have hoi : o ≠ i := fun e => ho (by rw [idsT_eq, e]; simp)
   have hPS := passU_succ d kind item long many kids shares p cs ks
   have hpo := passU_ok (d + 1) _ _ out.length hv hfit (by omega) hB
   generalize (idxL kind p many kids.length (nextF shares p cs)).foldl (stepU (passU d) kids) ((cs, ks), if kind = 1 then [(item, long)] else []) = acc at *
   (repeat (first | refine gO rfl ?_ | ((((with_reducible refine yR ?_); refine awp_keep zK20 100 (kR ?_))) <;> ((try with_reducible intro K1 hK1); simp only [go_sem, ↓reduceIte, reduceCtorEq, nA, nB, nC, nD, nE, nF, hH10, nG, nH, nI] <;> and_intros <;> first | (apply hK1; clear hK1 K1) | (intros; (omega))))))
   simp only [retQ, Tryz.results132, resV, resL]
   refine ⟨_, _, Weak.refl _, Hp.le.refl _, rfl, .mk (p + 1) cs' ks', out', g1.hadOne hS hK1', ⟨(upd_other _ _ hoi).trans g2.1, g2.2⟩, g3.trans ⟨fun y hy _ => upd_other _ _ (fun e => hy (by rw [idsT_eq, e]; simp)), fun _ _ _ => rfl⟩, fun h => by omega, fun _ hle => ?_, fun _ hlt => ?_⟩
   ·rw [hPS] at hle ⊢
    obtain ⟨e1, e2⟩ := g4.2.2.1 hle
    have e3 : acc.1.1 = cs' := by rw [← e1]
    have e4 : acc.1.2 = ks' := by rw [← e1]
    exact ⟨by rw [e3, e4], e2⟩
   ·rw [hPS] at hlt
    have e5 := g4.2.2.2 hlt
    refine ⟨e5, ⟨by omega, ?_, ?_⟩⟩
    ·have := g4.1.2.1; rw [e5] at this; exact this
    ·have := g4.1.2.2; rw [e5] at this; exact this
abbrev zPIE : List Nat := [0, 1, 2, 3, 4, 5, 6, 7, 8, 9, 10, 11]
abbrev zPIP : List (Nat × List Nat × List Nat) := []
attribute [go_sem] zPIE zPIP
theorem a_in2 (x lo hi : Int) (h : Hp) : ACalls Tryz.prog 87 [.v (.int .i64 x), .v (.int .i64 lo), .v (.int .i64 hi)] h (fun r h' => r = .v (.bool (!outB x lo hi)) ∧ h' = h) :=
 (a_in x lo hi h).mono fun r h' ⟨e, e2⟩ => ⟨by rw [e, outB]; congr 2; rw [Bool.eq_iff_iff]; simp, e2⟩
theorem g_share40 (x : Int) (h : Hp) : ACalls Tryz.prog 121 [.v (.int .i64 x)] h (fun r h' => r = .v (.bool (outB x 1 1000)) ∧ h' = h) := by
 refine gE Tryz.func121 rfl (by kernel_rfl) 5 rfl fun c => ?_
 (repeat (first | refine gO rfl ?_ | (refine gR fun K1 hK1 => ?_; simp only [go_sem, ↓reduceIte, reduceCtorEq, nA, nB, nC, nD, nE, nF] <;> and_intros <;> first | (apply hK1; clear hK1 K1) | skip)))
 refine (a_in2 x 1 1000 h).mono ?_; rintro _ hz ⟨rfl, hh⟩; apply hK1; clear hK1 K1; rw [hh]; clear hh hz
 (repeat (first | refine gO rfl ?_ | (refine gR fun K1 hK1 => ?_; simp only [go_sem, ↓reduceIte, reduceCtorEq, nA, nB, nC, nD, nE, nF] <;> and_intros <;> (apply hK1; clear hK1 K1))))
 simp only [Tryz.results121, go_sem, ↓reduceIte, reduceCtorEq, nA, nB, nC, nD, nE, nF]
 exact ⟨_, _, Weak.refl _, Hp.le.refl _, by simp, rfl⟩
theorem g_shares (l : List Int) (hl : l.length ≤ 1000) (h : Hp) : ACalls Tryz.prog 120 [.row 1 (l.map encI) none, .fn 121 []] h (fun r h' => r = .v (.bool (l.any fun n => outB n 1 1000)) ∧ h' = h) := by
 refine (g_contains39 121 [] l (by omega) (fun j h' => h' = h ∧ (l.take j).any (fun n => outB n 1 1000) = false) (fun j h' => h' = h ∧ outB (l.getD j 0) 1 1000 = true) h ⟨rfl, rfl⟩ ?_).mono ?_
 ·rintro j h' hj ⟨rfl, hI⟩
  refine (g_share40 _ _).mono ?_
  rintro _ h2 ⟨rfl, hh⟩
  refine ⟨_, rfl, fun hb => ⟨hh, hb⟩, fun hb => ⟨hh, ?_⟩⟩
  rw [List.any_eq_false] at hI ⊢
  intro x hx
  rw [List.take_add_one, List.getElem?_eq_getElem hj] at hx
  rcases List.mem_append.1 hx with hx | hx
  ·exact hI x hx
  ·rw [List.getD_eq_getElem?_getD, List.getElem?_eq_getElem hj] at hb
   simp at hx hb
   rw [hx]; simpa using hb
 ·rintro _ h' (⟨j, hj, rfl, hh, hb⟩ | ⟨rfl, hh, hI⟩)
  ·exact ⟨by rw [List.any_eq_true.2 ⟨_, getD_mem' l j 0 hj, hb⟩], hh⟩
  ·rw [List.take_length] at hI
   exact ⟨by rw [hI], hh⟩
theorem g_part22 : ∀ (d : Nat) (t : LT) (h : Hp), KC d t → ACalls Tryz.prog 67 [.agg (encL t)] h (fun r h' => r = .v (.int .i64 (partF t)) ∧ h' = h)
 | 0, _, _, hb => hb.elim
 | d + 1, .mk kind item long many kids shares, h0, hb => by
  obtain ⟨b1, b2, b3, b4, b5, b6, b7, b8⟩ := hb
  simp only [encL_eq]
  refine gE Tryz.func67 rfl (by kernel_rfl) 119 rfl fun c => ?_
  (repeat (first | refine gQ rfl ?_ | ((first | ((with_reducible refine yS ?_); refine awp_keep zK21 100 (uS zM21 ?_)) | ((with_reducible refine xS ?_); refine awp_keep zK21 100 (uD 1 zM21 zPIE zPIP 120 rfl (by kernel_rfl) ?_))) <;> ((try with_reducible intro K1 hK1); simp only [go_sem, ↓reduceIte, reduceCtorEq, nA, nB, nC, nD, nE, nF, nG, nH, nI] <;> and_intros <;> (apply hK1; clear hK1 K1)))))
  refine awp_seq ?_
  refine awp_join (rl false [1, 1, 118]) 0 (fun s => partF (.mk kind item long many kids shares) = firstNZ (kids.map partF) ∧ s = ⟨(AV.junk :: ((.ref [.v (.int .i64 kind), .v (.string item), .v (.int .i64 long), .v (.int .i64 many), .row 6 (kids.map encL) none, .row 1 (shares.map encI) none] 0) :: (jnk 118 []))), [], h0⟩) ?_ ?_
  ·(repeat (first | refine gO rfl ?_ | ((((with_reducible refine yS ?_); refine awp_keep zK21 100 (uS zM21 ?_))) <;> ((try with_reducible intro K1 hK1); simp only [go_sem, ↓reduceIte, reduceCtorEq, nA, nB, nC, nD, nE, nF, nG, nH, nI] <;> and_intros))))
   refine (a_in2 kind 1 5 _).mono ?_; rintro _ hz ⟨rfl, hh⟩; apply hK1; clear hK1 K1; rw [hh]; clear hh hz
   (repeat (first | refine gO rfl ?_ | ((refine gM zM21 fun K1 hK1 => ?_; simp only [go_sem, ↓reduceIte, reduceCtorEq, nA, nB, nC, nD, nE, nF, nG, nH, nI] <;> and_intros <;> (apply hK1; clear hK1 K1)))))
   refine awp_cond (t := _) rfl (fun h1 => ?_) (fun h1 => ?_)
   ·(repeat (first | refine gO rfl ?_ | ((((with_reducible refine yS ?_); refine awp_keep zK21 100 (uS zM21 ?_))) <;> ((try with_reducible intro K1 hK1); simp only [go_sem, ↓reduceIte, reduceCtorEq, nA, nB, nC, nD, nE, nF, nG, nH, nI] <;> and_intros <;> (apply hK1; clear hK1 K1)))))
    simp only [Tryz.results67, go_sem, ↓reduceIte, reduceCtorEq, nA, nB, nC, nD, nE, nF]
    exact ⟨_, _, Weak.refl _, Hp.le.refl _, by rw [partF_eq, h1]; rfl, rfl⟩
   have hgt : decide ((0 : Int) < shares.length) = ((shares.length : Int) != 0) := by rw [Bool.eq_iff_iff]; simp only [decide_eq_true_eq, bne_iff_ne, ne_eq]; omega
   have key : ∀ q1 q4 q5 : Bool, (kind == 1) = q1 → (kind == 4) = q4 → (kind == 5) = q5 → (q1 && q4) = false → (q1 && q5) = false → (q4 && q5) = false → (q1 = true ∧ q4 = false ∧ q5 = false ∨ q1 = false ∧ q4 = true ∧ q5 = false ∨ q1 = false ∧ q4 = false ∧ q5 = true ∨ q1 = false ∧ q4 = false ∧ q5 = false) := by intro q1 q4 q5 _ _ _; cases q1 <;> cases q4 <;> cases q5 <;> simp
   rcases key _ _ _ rfl rfl rfl (by simp; omega) (by simp; omega) (by simp; omega) with ⟨e1, e4, e5⟩ | ⟨e1, e4, e5⟩ | ⟨e1, e4, e5⟩ | ⟨e1, e4, e5⟩ <;> clear key <;> (repeat' (first | refine gO rfl ?_ | ((first | ((with_reducible refine yS ?_); refine awp_keep zK21 100 (uS zM21 ?_)) | ((with_reducible refine yR ?_); refine awp_keep zK21 100 (uR zM21 ?_)) | refine gM zM21 ?_ | (with_reducible refine wM ?_ ?_) | ((with_reducible refine xS ?_); refine awp_keep zK21 100 (uD 1 zM21 zPIE zPIP 120 rfl (by kernel_rfl) ?_))) <;> ((try with_reducible intro K1 hK1); simp only [go_sem, ↓reduceIte, reduceCtorEq, nA, nB, nC, nD, nE, nF, e1, e4, e5, hgt, nG, nH, nI] <;> and_intros <;> first | (apply hK1; clear hK1 K1) | (intros; first | omega | decide | (simp_all <;> omega)) | skip)) | (refine awp_cond (t := _) rfl (fun hcnd => ?_) (fun hcnd => ?_) <;> first | (cases hcnd; done) | (simp only [hcnd]) | skip)))
   all_goals first | (simp only [Tryz.results67, go_sem, ↓reduceIte, reduceCtorEq, nA, nB, nC, nD, nE, nF]; exact ⟨_, _, Weak.refl _, Hp.le.refl _, by rw [partF_eq, h1, show formB kind item long many kids.length shares.length = true from (by clear b1 b2 b3 b4 b5 b6 b7 b8 c; simp only [formB, bne, Bool.not_eq_true', Bool.not_eq_false'] at *; simp only [*, Bool.not_true, Bool.not_false, Bool.false_and, Bool.true_and, Bool.and_false, Bool.and_true, Bool.false_or, Bool.true_or, Bool.or_true, Bool.or_false])]; rfl, rfl⟩) | skip
   ·have hF : formB kind item long many kids.length shares.length = false := by clear hK1 K1; clear b1 b2 b3 b4 b5 b6 b7 b8 c; simp only [formB, bne, Bool.not_eq_true', Bool.not_eq_false'] at *; simp only [*, Bool.not_true, Bool.not_false, Bool.false_and, Bool.true_and, Bool.and_false, Bool.and_true, Bool.false_or, Bool.true_or, Bool.or_true, Bool.or_false]
    refine (a_key item (by omega) _).mono ?_; rintro _ hz ⟨rfl, hh⟩; refine ⟨rfl, hK1 _ ?_⟩; clear hK1 K1; rw [hh]; clear hh hz
    (repeat (first | refine gO rfl ?_ | ((refine gM zM21 fun K1 hK1 => ?_; simp only [go_sem, ↓reduceIte, reduceCtorEq, nA, nB, nC, nD, nE, nF, e1, e4, e5, nG, nH, nI] <;> and_intros <;> (apply hK1; clear hK1 K1)))))
    refine awp_cond (t := _) rfl (fun h3 => ?_) (fun h3 => ?_)
    ·(repeat (first | refine gO rfl ?_ | ((((with_reducible refine yS ?_); refine awp_keep zK21 100 (uS zM21 ?_))) <;> ((try with_reducible intro K1 hK1); simp only [go_sem, ↓reduceIte, reduceCtorEq, nA, nB, nC, nD, nE, nF, e1, e4, e5, nG, nH, nI] <;> and_intros <;> (apply hK1; clear hK1 K1)))))
     simp only [Tryz.results67, go_sem, ↓reduceIte, reduceCtorEq, nA, nB, nC, nD, nE, nF]
     exact ⟨_, _, Weak.refl _, Hp.le.refl _, by rw [partF_eq, h1, hF, e1, h3]; rfl, rfl⟩
    ·(repeat (first | refine gO rfl ?_ | ((((with_reducible refine yS ?_); refine awp_keep zK21 100 (uS zM21 ?_))) <;> ((try with_reducible intro K1 hK1); simp only [go_sem, ↓reduceIte, reduceCtorEq, nA, nB, nC, nD, nE, nF, e1, e4, e5, nG, nH, nI] <;> and_intros <;> first | (intros; (simp_all <;> omega)) | skip))))
     refine (a_in2 long 1 3600000 _).mono ?_; rintro _ hz ⟨rfl, hh⟩; refine ⟨rfl, hK1 _ ?_⟩; clear hK1 K1; rw [hh]; clear hh hz
     (repeat (first | refine gO rfl ?_ | ((refine gM zM21 fun K1 hK1 => ?_; simp only [go_sem, ↓reduceIte, reduceCtorEq, nA, nB, nC, nD, nE, nF, e1, e4, e5, nG, nH, nI] <;> and_intros <;> (apply hK1; clear hK1 K1)))))
     refine awp_cond (t := _) rfl (fun h4 => ?_) (fun h4 => ?_)
     ·(repeat ((refine gO rfl ?_)))
      refine awp_cond (t := _) rfl (fun _ => ?_) (fun h => by rw [h4] at h; cases h)
      (repeat (first | refine gO rfl ?_ | ((((with_reducible refine yS ?_); refine awp_keep zK21 100 (uS zM21 ?_))) <;> ((try with_reducible intro K1 hK1); simp only [go_sem, ↓reduceIte, reduceCtorEq, nA, nB, nC, nD, nE, nF, e1, e4, e5, nG, nH, nI] <;> and_intros <;> (apply hK1; clear hK1 K1)))))
      simp only [Tryz.results67, go_sem, ↓reduceIte, reduceCtorEq, nA, nB, nC, nD, nE, nF]
      exact ⟨_, _, Weak.refl _, Hp.le.refl _, by rw [partF_eq, h1, hF, e1, h3, h4]; rfl, rfl⟩
     ·(repeat (((first | ((with_reducible refine yR ?_); refine awp_keep zK21 100 (uR zM21 ?_)) | refine gM zM21 ?_) <;> ((try with_reducible intro K1 hK1); simp only [go_sem, ↓reduceIte, reduceCtorEq, nA, nB, nC, nD, nE, nF, e1, e4, e5, nG, nH, nI] <;> and_intros <;> first | (apply hK1; clear hK1 K1) | skip))))
      refine ⟨.v (.bool false), rfl, True.intro, hK1 _ ?_⟩; clear hK1 K1
      (repeat ((refine gO rfl ?_)))
      refine awp_cond (t := _) rfl (fun h => by cases h) (fun _ => ?_)
      (repeat (((((with_reducible refine yS ?_); refine awp_keep zK21 100 (uS zM21 ?_))) <;> ((try with_reducible intro K1 hK1); simp only [go_sem, ↓reduceIte, reduceCtorEq, nA, nB, nC, nD, nE, nF, e1, e4, e5, nG, nH, nI] <;> and_intros))))
      refine (g_shares shares (by omega) _).mono ?_; rintro _ hz ⟨rfl, hh⟩; apply hK1; clear hK1 K1; rw [hh]; clear hh hz
      (repeat (first | refine gO rfl ?_ | ((refine gM zM21 fun K1 hK1 => ?_; simp only [go_sem, ↓reduceIte, reduceCtorEq, nA, nB, nC, nD, nE, nF, nG, nH, nI] <;> and_intros <;> (apply hK1; clear hK1 K1)))))
      refine awp_cond (t := _) rfl (fun h6 => ?_) (fun h6 => ?_)
      ·(repeat (first | refine gO rfl ?_ | ((((with_reducible refine yS ?_); refine awp_keep zK21 100 (uS zM21 ?_))) <;> ((try with_reducible intro K1 hK1); simp only [go_sem, ↓reduceIte, reduceCtorEq, nA, nB, nC, nD, nE, nF, nG, nH, nI] <;> and_intros <;> (apply hK1; clear hK1 K1)))))
       simp only [Tryz.results67, go_sem, ↓reduceIte, reduceCtorEq, nA, nB, nC, nD, nE, nF]
       exact ⟨_, _, Weak.refl _, Hp.le.refl _, by rw [partF_eq, h1, hF, e1, h3, h4, e5, h6]; rfl, rfl⟩
      ·(repeat ((refine gO rfl ?_)))
       exact ⟨by rw [partF_eq, h1, hF, e1, h3, h4, e5, h6]; rfl, rfl⟩
   ·have hF : formB kind item long many kids.length shares.length = false := by clear hK1 K1; clear b1 b2 b3 b4 b5 b6 b7 b8 c; simp only [formB, bne, Bool.not_eq_true', Bool.not_eq_false'] at *; simp only [*, Bool.not_true, Bool.not_false, Bool.false_and, Bool.true_and, Bool.and_false, Bool.and_true, Bool.false_or, Bool.true_or, Bool.or_true, Bool.or_false]
    refine ⟨.v (.bool false), rfl, True.intro, hK1 _ ?_⟩; clear hK1 K1
    (repeat ((refine gO rfl ?_)))
    refine awp_cond (t := _) rfl (fun h => by cases h) (fun _ => ?_)
    (repeat (first | refine gO rfl ?_ | ((first | ((with_reducible refine yS ?_); refine awp_keep zK21 100 (uS zM21 ?_)) | refine gM zM21 ?_) <;> ((try with_reducible intro K1 hK1); simp only [go_sem, ↓reduceIte, reduceCtorEq, nA, nB, nC, nD, nE, nF, e1, e4, e5, nG, nH, nI] <;> and_intros <;> first | (apply hK1; clear hK1 K1) | skip))))
    refine ⟨.v (.bool false), rfl, True.intro, hK1 _ ?_⟩; clear hK1 K1
    (repeat ((refine gO rfl ?_)))
    refine awp_cond (t := _) rfl (fun h => by cases h) (fun _ => ?_)
    (repeat (((first | ((with_reducible refine yR ?_); refine awp_keep zK21 100 (uR zM21 ?_)) | refine gM zM21 ?_) <;> ((try with_reducible intro K1 hK1); simp only [go_sem, ↓reduceIte, reduceCtorEq, nA, nB, nC, nD, nE, nF, e1, e4, e5, nG, nH, nI] <;> and_intros <;> first | (apply hK1; clear hK1 K1) | skip))))
    refine ⟨.v (.bool false), rfl, True.intro, hK1 _ ?_⟩; clear hK1 K1
    (repeat ((refine gO rfl ?_)))
    refine awp_cond (t := _) rfl (fun h => by cases h) (fun _ => ?_)
    (repeat (((((with_reducible refine yS ?_); refine awp_keep zK21 100 (uS zM21 ?_))) <;> ((try with_reducible intro K1 hK1); simp only [go_sem, ↓reduceIte, reduceCtorEq, nA, nB, nC, nD, nE, nF, e1, e4, e5, nG, nH, nI] <;> and_intros))))
    refine (g_shares shares (by omega) _).mono ?_; rintro _ hz ⟨rfl, hh⟩; apply hK1; clear hK1 K1; rw [hh]; clear hh hz
    (repeat (first | refine gO rfl ?_ | ((refine gM zM21 fun K1 hK1 => ?_; simp only [go_sem, ↓reduceIte, reduceCtorEq, nA, nB, nC, nD, nE, nF, nG, nH, nI] <;> and_intros <;> (apply hK1; clear hK1 K1)))))
    refine awp_cond (t := _) rfl (fun h6 => ?_) (fun h6 => ?_)
    ·(repeat (first | refine gO rfl ?_ | ((((with_reducible refine yS ?_); refine awp_keep zK21 100 (uS zM21 ?_))) <;> ((try with_reducible intro K1 hK1); simp only [go_sem, ↓reduceIte, reduceCtorEq, nA, nB, nC, nD, nE, nF, nG, nH, nI] <;> and_intros <;> (apply hK1; clear hK1 K1)))))
     simp only [Tryz.results67, go_sem, ↓reduceIte, reduceCtorEq, nA, nB, nC, nD, nE, nF]
     exact ⟨_, _, Weak.refl _, Hp.le.refl _, by rw [partF_eq, h1, hF, e1, e5, h6]; rfl, rfl⟩
    ·(repeat ((refine gO rfl ?_)))
     exact ⟨by rw [partF_eq, h1, hF, e1, e5, h6]; rfl, rfl⟩
   ·have hF : formB kind item long many kids.length shares.length = false := by clear hK1 K1; clear b1 b2 b3 b4 b5 b6 b7 b8 c; simp only [formB, bne, Bool.not_eq_true', Bool.not_eq_false'] at *; simp only [*, Bool.not_true, Bool.not_false, Bool.false_and, Bool.true_and, Bool.and_false, Bool.and_true, Bool.false_or, Bool.true_or, Bool.or_true, Bool.or_false]
    refine ⟨.v (.bool false), rfl, True.intro, hK1 _ ?_⟩; clear hK1 K1
    (repeat ((refine gO rfl ?_)))
    refine awp_cond (t := _) rfl (fun h => by cases h) (fun _ => ?_)
    (repeat (first | refine gO rfl ?_ | ((first | ((with_reducible refine yS ?_); refine awp_keep zK21 100 (uS zM21 ?_)) | refine gM zM21 ?_) <;> ((try with_reducible intro K1 hK1); simp only [go_sem, ↓reduceIte, reduceCtorEq, nA, nB, nC, nD, nE, nF, e1, e4, e5, nG, nH, nI] <;> and_intros <;> first | (apply hK1; clear hK1 K1) | skip))))
    refine ⟨.v (.bool false), rfl, True.intro, hK1 _ ?_⟩; clear hK1 K1
    (repeat ((refine gO rfl ?_)))
    refine awp_cond (t := _) rfl (fun h => by cases h) (fun _ => ?_)
    (repeat (((((with_reducible refine yR ?_); refine awp_keep zK21 100 (uR zM21 ?_))) <;> ((try with_reducible intro K1 hK1); simp only [go_sem, ↓reduceIte, reduceCtorEq, nA, nB, nC, nD, nE, nF, e1, e4, e5, nG, nH, nI] <;> and_intros <;> first | (intros; (simp_all <;> omega)) | skip))))
    refine (a_in2 many 1 100 _).mono ?_; rintro _ hz ⟨rfl, hh⟩; refine ⟨rfl, hK1 _ ?_⟩; clear hK1 K1; rw [hh]; clear hh hz
    (repeat (first | refine gO rfl ?_ | ((refine gM zM21 fun K1 hK1 => ?_; simp only [go_sem, ↓reduceIte, reduceCtorEq, nA, nB, nC, nD, nE, nF, e1, e4, e5, nG, nH, nI] <;> and_intros <;> (apply hK1; clear hK1 K1)))))
    refine awp_cond (t := _) rfl (fun h4 => ?_) (fun h4 => ?_)
    ·(repeat (first | refine gO rfl ?_ | ((((with_reducible refine yS ?_); refine awp_keep zK21 100 (uS zM21 ?_))) <;> ((try with_reducible intro K1 hK1); simp only [go_sem, ↓reduceIte, reduceCtorEq, nA, nB, nC, nD, nE, nF, e1, e4, e5, nG, nH, nI] <;> and_intros <;> (apply hK1; clear hK1 K1)))))
     simp only [Tryz.results67, go_sem, ↓reduceIte, reduceCtorEq, nA, nB, nC, nD, nE, nF]
     exact ⟨_, _, Weak.refl _, Hp.le.refl _, by rw [partF_eq, h1, hF, e1, e5, h4]; rfl, rfl⟩
    ·(repeat (((((with_reducible refine yS ?_); refine awp_keep zK21 100 (uS zM21 ?_))) <;> ((try with_reducible intro K1 hK1); simp only [go_sem, ↓reduceIte, reduceCtorEq, nA, nB, nC, nD, nE, nF, e1, e4, e5, nG, nH, nI] <;> and_intros))))
     refine (g_shares shares (by omega) _).mono ?_; rintro _ hz ⟨rfl, hh⟩; apply hK1; clear hK1 K1; rw [hh]; clear hh hz
     (repeat (first | refine gO rfl ?_ | ((refine gM zM21 fun K1 hK1 => ?_; simp only [go_sem, ↓reduceIte, reduceCtorEq, nA, nB, nC, nD, nE, nF, nG, nH, nI] <;> and_intros <;> (apply hK1; clear hK1 K1)))))
     refine awp_cond (t := _) rfl (fun h6 => ?_) (fun h6 => ?_)
     ·(repeat (first | refine gO rfl ?_ | ((((with_reducible refine yS ?_); refine awp_keep zK21 100 (uS zM21 ?_))) <;> ((try with_reducible intro K1 hK1); simp only [go_sem, ↓reduceIte, reduceCtorEq, nA, nB, nC, nD, nE, nF, nG, nH, nI] <;> and_intros <;> (apply hK1; clear hK1 K1)))))
      simp only [Tryz.results67, go_sem, ↓reduceIte, reduceCtorEq, nA, nB, nC, nD, nE, nF]
      exact ⟨_, _, Weak.refl _, Hp.le.refl _, by rw [partF_eq, h1, hF, e1, e5, h4, h6]; rfl, rfl⟩
     ·(repeat ((refine gO rfl ?_)))
      exact ⟨by rw [partF_eq, h1, hF, e1, e5, h4, h6]; rfl, rfl⟩
   ·have hF : formB kind item long many kids.length shares.length = false := by clear hK1 K1; clear b1 b2 b3 b4 b5 b6 b7 b8 c; simp only [formB, bne, Bool.not_eq_true', Bool.not_eq_false'] at *; simp only [*, Bool.not_true, Bool.not_false, Bool.false_and, Bool.true_and, Bool.and_false, Bool.and_true, Bool.false_or, Bool.true_or, Bool.or_true, Bool.or_false]
    refine ⟨.v (.bool false), rfl, True.intro, hK1 _ ?_⟩; clear hK1 K1
    (repeat ((refine gO rfl ?_)))
    refine awp_cond (t := _) rfl (fun h => by cases h) (fun _ => ?_)
    (repeat (first | refine gO rfl ?_ | ((first | ((with_reducible refine yS ?_); refine awp_keep zK21 100 (uS zM21 ?_)) | refine gM zM21 ?_) <;> ((try with_reducible intro K1 hK1); simp only [go_sem, ↓reduceIte, reduceCtorEq, nA, nB, nC, nD, nE, nF, e1, e4, e5, nG, nH, nI] <;> and_intros <;> first | (apply hK1; clear hK1 K1) | skip))))
    refine ⟨.v (.bool false), rfl, True.intro, hK1 _ ?_⟩; clear hK1 K1
    (repeat ((refine gO rfl ?_)))
    refine awp_cond (t := _) rfl (fun h => by cases h) (fun _ => ?_)
    (repeat (((first | ((with_reducible refine yR ?_); refine awp_keep zK21 100 (uR zM21 ?_)) | refine gM zM21 ?_) <;> ((try with_reducible intro K1 hK1); simp only [go_sem, ↓reduceIte, reduceCtorEq, nA, nB, nC, nD, nE, nF, e1, e4, e5, nG, nH, nI] <;> and_intros <;> first | (apply hK1; clear hK1 K1) | skip))))
    refine ⟨.v (.bool false), rfl, True.intro, hK1 _ ?_⟩; clear hK1 K1
    (repeat ((refine gO rfl ?_)))
    refine awp_cond (t := _) rfl (fun h => by cases h) (fun _ => ?_)
    (repeat (((((with_reducible refine yS ?_); refine awp_keep zK21 100 (uS zM21 ?_))) <;> ((try with_reducible intro K1 hK1); simp only [go_sem, ↓reduceIte, reduceCtorEq, nA, nB, nC, nD, nE, nF, e1, e4, e5, nG, nH, nI] <;> and_intros))))
    refine (g_shares shares (by omega) _).mono ?_; rintro _ hz ⟨rfl, hh⟩; apply hK1; clear hK1 K1; rw [hh]; clear hh hz
    (repeat (first | refine gO rfl ?_ | ((refine gM zM21 fun K1 hK1 => ?_; simp only [go_sem, ↓reduceIte, reduceCtorEq, nA, nB, nC, nD, nE, nF, nG, nH, nI] <;> and_intros <;> (apply hK1; clear hK1 K1)))))
    refine awp_cond (t := _) rfl (fun h6 => ?_) (fun h6 => ?_)
    ·(repeat (first | refine gO rfl ?_ | ((((with_reducible refine yS ?_); refine awp_keep zK21 100 (uS zM21 ?_))) <;> ((try with_reducible intro K1 hK1); simp only [go_sem, ↓reduceIte, reduceCtorEq, nA, nB, nC, nD, nE, nF, nG, nH, nI] <;> and_intros <;> (apply hK1; clear hK1 K1)))))
     simp only [Tryz.results67, go_sem, ↓reduceIte, reduceCtorEq, nA, nB, nC, nD, nE, nF]
     exact ⟨_, _, Weak.refl _, Hp.le.refl _, by rw [partF_eq, h1, hF, e1, e5, h6]; rfl, rfl⟩
    ·(repeat ((refine gO rfl ?_)))
     exact ⟨by rw [partF_eq, h1, hF, e1, e5, h6]; rfl, rfl⟩
  ·rintro _ ⟨hpf, rfl⟩
   (repeat (first | refine gO rfl ?_ | ((((with_reducible refine yS ?_); refine awp_keep zK21 100 (uS zM21 ?_))) <;> ((try with_reducible intro K1 hK1); simp only [go_sem, ↓reduceIte, reduceCtorEq, nA, nB, nC, nD, nE, nF, nG, nH, nI] <;> and_intros <;> (apply hK1; clear hK1 K1)))))
   refine awp_loopC (rl false [108, 3, 9]) 0 (fun g s => ∃ j : Nat, g + j = kids.length ∧ firstNZ ((kids.map partF).take j) = 0 ∧
    s = ⟨((jnk 108 ((.row 6 (kids.map encL) none) :: (.v (.int .i64 kids.length)) :: (.v (.int .i64 j)) :: (jnk 9 [])))), [], h0⟩) kids.length ⟨0, by omega, rfl, rfl⟩ ?_
   rintro g _ ⟨j, hj, hnz, rfl⟩
   (repeat (first | refine gO rfl ?_ | ((((with_reducible refine yS ?_); refine awp_keep zK21 100 (uS zM21 ?_))) <;> ((try with_reducible intro K1 hK1); simp only [go_sem, ↓reduceIte, reduceCtorEq, nA, nB, nC, nD, nE, nF, nG, nH, nI] <;> and_intros <;> (apply hK1; clear hK1 K1)))))
   refine awp_cond (t := _) rfl (fun h6 => ?_) (fun h6 => ?_)
   ·simp only [decide_eq_true_eq] at h6
    have hjk : j < kids.length := by omega
    have hg : (kids.map encL).getD j [] = encL (kids.getD j default) := getD_enc encL kids j default hjk
    have hmem := getD_mem' kids j default hjk
    have hbt := b8 _ hmem
    have hgp : (kids.map partF)[j]? = some (partF (kids.getD j default)) := by rw [List.getElem?_map, List.getElem?_eq_getElem hjk, List.getD_eq_getElem?_getD, List.getElem?_eq_getElem hjk]; rfl
    have e1 : (kids.map partF).take (j + 1) = (kids.map partF).take j ++ [partF (kids.getD j default)] := by rw [List.take_add_one, hgp]; rfl
    generalize kids.getD j default = t2 at hg hmem hbt hgp e1
    have hlen := encL_len t2
    have htk : List.take 6 (encL t2) = encL t2 := List.take_of_length_le (Nat.le_of_eq hlen)
    have hdr : List.drop 6 (encL t2) = [] := List.drop_of_length_le (Nat.le_of_eq hlen)
    (repeat (first | refine gO rfl ?_ | ((((with_reducible refine yS ?_); refine awp_keep zK21 100 (uS zM21 ?_))) <;> ((try with_reducible intro K1 hK1); simp only [go_sem, ↓reduceIte, reduceCtorEq, nA, nB, nC, nD, nE, nF, Int.toNat_natCast, hg, hlen, htk, hdr, nG, nH, nI] <;> and_intros <;> first | (apply hK1; clear hK1 K1) | (intros; (omega)) | skip))))
    refine (g_part22 d t2 h0 hbt).mono ?_; rintro _ hz ⟨rfl, hh⟩; apply hK1; clear hK1 K1; rw [hh]; clear hh hz
    (repeat (first | refine gO rfl ?_ | ((first | ((with_reducible refine yS ?_); refine awp_keep zK21 100 (uS zM21 ?_)) | refine gM zM21 ?_) <;> ((try with_reducible intro K1 hK1); simp only [go_sem, ↓reduceIte, reduceCtorEq, nA, nB, nC, nD, nE, nF, nG, nH, nI] <;> and_intros <;> (apply hK1; clear hK1 K1)))))
    refine awp_cond (t := _) rfl (fun h7 => ?_) (fun h7 => ?_)
    ·(repeat (first | refine gO rfl ?_ | ((((with_reducible refine yS ?_); refine awp_keep zK21 100 (uS zM21 ?_))) <;> ((try with_reducible intro K1 hK1); simp only [go_sem, ↓reduceIte, reduceCtorEq, nA, nB, nC, nD, nE, nF, nG, nH, nI] <;> and_intros <;> (apply hK1; clear hK1 K1)))))
     simp only [Tryz.results67, go_sem, ↓reduceIte, reduceCtorEq, nA, nB, nC, nD, nE, nF]
     exact ⟨_, _, Weak.refl _, Hp.le.refl _, by rw [hpf, firstNZ_pre _ j _ hgp (by simpa using h7) hnz], rfl⟩
    ·(repeat (first | refine gO rfl ?_ | ((((with_reducible refine yR ?_); refine awp_keep zK21 100 (uR zM21 ?_))) <;> ((try with_reducible intro K1 hK1); simp only [go_sem, ↓reduceIte, reduceCtorEq, nA, nB, nC, nD, nE, nF, nG, nH, nI] <;> and_intros <;> first | (apply hK1; clear hK1 K1) | (intros; (omega))))))
     refine ⟨g - 1, by omega, j + 1, by omega, ?_, rfl⟩
     rw [e1, firstNZ_app, if_pos hnz]
     simpa using h7
   ·simp only [decide_eq_false_iff_not] at h6
    have hjk : j = kids.length := by omega
    rw [List.take_of_length_le (by simp; omega)] at hnz
    (repeat (first | refine gO rfl ?_ | ((((with_reducible refine yS ?_); refine awp_keep zK21 100 (uS zM21 ?_))) <;> ((try with_reducible intro K1 hK1); simp only [go_sem, ↓reduceIte, reduceCtorEq, nA, nB, nC, nD, nE, nF, nG, nH, nI] <;> and_intros <;> (apply hK1; clear hK1 K1)))))
    simp only [Tryz.results67, go_sem, ↓reduceIte, reduceCtorEq, nA, nB, nC, nD, nE, nF]
    exact ⟨_, _, Weak.refl _, Hp.le.refl _, by rw [hpf, hnz], rfl⟩
def oMany (m : Int) : AO := .cells [.v (.int .i64 m)]
theorem sum_take_le (kids : List LT) (f : LT → Int) (hf : ∀ x ∈ kids, 0 ≤ f x) (j : Nat) : ((kids.take j).map f).sum ≤ (kids.map f).sum := by
 have e : (kids.map f).sum = ((kids.take j).map f).sum + ((kids.drop j).map f).sum := by rw [← List.sum_append, ← List.map_append, List.take_append_drop]
 have : ∀ l : List LT, (∀ x ∈ l, 0 ≤ f x) → 0 ≤ (l.map f).sum := fun l => by
  induction l with
  | nil => simp
  | cons x l ih => intro h; have h1 := h x (by simp); have h2 := ih fun y hy => h y (by simp [hy]); simp only [List.map_cons, List.sum_cons]; omega
 have := this (kids.drop j) fun x hx => hf x (List.mem_of_mem_drop hx)
 omega
theorem max_take (kids : List LT) (f : LT → Int) : ∀ (j : Nat) (_ : j < kids.length), f (kids.getD j default) ≤ (kids.map f).foldl max 0 := by
 have key : ∀ (l : List LT) (a : Int) (j : Nat), j < l.length → a ≤ (l.map f).foldl max a ∧ f (l.getD j default) ≤ (l.map f).foldl max a := by
  intro l
  induction l with
  | nil => intro a j h; simp at h
  | cons x l ih =>
   intro a j h
   simp only [List.map_cons, List.foldl_cons]
   have mono : ∀ (l : List Int) (a : Int), a ≤ l.foldl max a := fun l => by
    induction l with
    | nil => intro a; exact Int.le_refl _
    | cons y l ih => intro a; have := ih (max a y); simp only [List.foldl_cons]; omega
   cases j with
   | zero => have := mono (l.map f) (max a (f x)); simp only [List.getD_cons_zero]; omega
   | succ j => have := ih (max a (f x)) j (by simpa using h); simp only [List.getD_cons_succ]; omega
 exact fun j hj => (key kids 0 j hj).2
def LargeR (t : LT) (deep m : Int) (h : Hp) (i : Nat) (r : AV) (h' : Hp) : Prop :=
 ∃ (b : Bool) (m' : Int), r = .v (.bool b) ∧ h' = { h with H := upd h.H i (some (oMany m')) } ∧ (b = true → 200 < m + manyF t ∨ 12 < deep + deepF t - 1) ∧ (b = false → m + manyF t ≤ 200 ∧ deep + deepF t - 1 ≤ 12 ∧ m' = m + manyF t)
theorem g_large : ∀ (d : Nat) (t : LT) (h : Hp) (i : Nat) (m deep : Int), KC d t → manyF t ≤ 1000000000000000 ∧ d ≤ 1000 → (0 ≤ m ∧ m ≤ 200) → (0 ≤ deep ∧ deep ≤ 1000) → h.H i = some (oMany m) →
  ACalls Tryz.prog 127 [.ptr i 0, .agg (encL t), .v (.int .i64 deep)] h (LargeR t deep m h i)
 | 0, _, _, _, _, _, hb, _, _, _, _ => hb.elim
 | d + 1, t, h, i, m, deep, hb, hd, hm, hdp, hi => by
  cases t with
  | mk kind item long many kids shares =>
  obtain ⟨b1, b2, b3, b4, b5, b6, b7, b8⟩ := id hb
  have hi' : h.H i = some (.cells [.v (.int .i64 m)]) := hi
  have hpos : ∀ x ∈ kids, 1 ≤ manyF x ∧ 1 ≤ deepF x := fun x hx => by have := size_bd d x (b8 x hx); omega
  refine gE Tryz.func127 rfl (by kernel_rfl) 24 rfl fun c => ?_
  rw [encL_eq]
  (repeat (first | refine gO rfl ?_ | (refine gR fun K1 hK1 => ?_; simp only [go_sem, ↓reduceIte, reduceCtorEq, nA, nB, nC, nD, nE, nF, hi'] <;> and_intros <;> first | (apply hK1; clear hK1 K1) | (intros; (omega)))))
  refine awp_cond (t := _) rfl (fun h1 => ?_) (fun h1 => ?_)
  ·(repeat (first | refine gO rfl ?_ | (refine gR fun K1 hK1 => ?_; simp only [go_sem, ↓reduceIte, reduceCtorEq, nA, nB, nC, nD, nE, nF, hi'] <;> and_intros <;> (apply hK1; clear hK1 K1))))
   simp only [Tryz.results127, go_sem, ↓reduceIte, reduceCtorEq, nA, nB, nC, nD, nE, nF]
   simp only [Bool.or_eq_true, decide_eq_true_eq] at h1
   have hs := sum_bd manyF 0 (Int.le_refl _) ([] : List LT) (by simp)
   have hd1 := size_bd (d + 1) _ hb
   refine ⟨_, _, Weak.refl _, Hp.le.refl _, true, m + 1, rfl, rfl, fun _ => ?_, fun h => by cases h⟩
   rw [manyF_eq, deepF_eq] at *
   have h2 := sum_take_le kids manyF (fun x hx => by have := hpos x hx; omega) 0
   have h3 := max_bd deepF 1000 kids 0 (by omega) fun x hx => by have := size_bd d x (b8 x hx); omega
   simp only [List.take_zero, List.map_nil, List.sum_nil] at h2
   omega
  ·(repeat (first | refine gO rfl ?_ | (refine gR fun K1 hK1 => ?_; simp only [go_sem, ↓reduceIte, reduceCtorEq, nA, nB, nC, nD, nE, nF, hi'] <;> and_intros <;> first | (intros; (decide)) | skip)))
   simp only [Bool.or_eq_false_iff, decide_eq_false_iff_not] at h1
   refine (g_contains41 172 [.ref [.ptr i 0] 0, .ref [.v (.int .i64 deep)] 0] (kids.map encL) (fun j hj => ?_) (by simp; omega)
    (fun j h' => h' = { h with H := upd h.H i (some (oMany (m + 1 + ((kids.take j).map manyF).sum))) } ∧ m + 1 + ((kids.take j).map manyF).sum ≤ 200 ∧ (((kids.take j).map deepF).foldl max 0 + deep ≤ 12))
    (fun j h' => ∃ m', h' = { h with H := upd h.H i (some (oMany m')) } ∧ (200 < m + 1 + ((kids.take (j + 1)).map manyF).sum ∨ 12 < deep + deepF (kids.getD j default)))
    _ ⟨by simp; rfl, by simp; omega, by simp; omega⟩ ?_).mono ?_
   ·have hj' : j < kids.length := by simpa using hj
    rw [show (kids.map encL).getD j [] = encL (kids.getD j default) from getD_enc encL kids j default hj']
    exact encL_len _
   ·rintro j h' hj ⟨rfl, hs1, hs2⟩
    have hjk : j < kids.length := by simpa using hj
    rw [show (kids.map encL).getD j [] = encL (kids.getD j default) from getD_enc encL kids j default hjk]
    have hmem := getD_mem' kids j default hjk
    have e1 := take_succ_map manyF kids j hjk
    have e2 := take_succ_map deepF kids j hjk
    have hbt := b8 _ hmem
    have hp2 := hpos _ hmem
    have h0 := many_take (kids := kids) (fun x hx => by have := hpos x hx; omega) j
    have hmk := many_kid (kids := kids) (fun x hx => by have := hpos x hx; omega) hmem
    have hd1 := hd.1
    rw [manyF_eq] at hd1
    rw [e1, List.sum_append]
    have hl42 : ∀ t2, KC d t2 → manyF t2 ≤ 1000000000000000 → ACalls Tryz.prog 172 [aggOf (encL t2), .ref [.ptr i 0] 0, .ref [.v (.int .i64 deep)] 0] { h with H := upd h.H i (some (oMany (m + 1 + ((kids.take j).map manyF).sum))) } (LargeR t2 (deep + 1) (m + 1 + ((kids.take j).map manyF).sum) h i) := fun t2 ht2 hm2 => by
     have hlen := encL_len t2
     have htk : List.take 6 (encL t2) = encL t2 := List.take_of_length_le (Nat.le_of_eq hlen)
     unfold aggOf
     refine gE Tryz.func172 rfl (by kernel_rfl) 7 rfl fun c => ?_
     (repeat (first | refine gO rfl ?_ | (refine gR fun K1 hK1 => ?_; simp only [go_sem, ↓reduceIte, reduceCtorEq, nA, nB, nC, nD, nE, nF, hlen, htk] <;> and_intros <;> first | (apply hK1; clear hK1 K1) | (intros; (omega)) | skip)))
     refine (g_large d t2 _ i _ (deep + 1) ht2 ⟨hm2, by omega⟩ (by omega) (by omega) (upd_same _ _ _)).mono ?_
     rintro _ _ ⟨b, m', rfl, rfl, hb1, hb2⟩
     refine hK1 _ ?_; clear hK1 K1
     (repeat (first | refine gO rfl ?_ | (refine gR fun K1 hK1 => ?_; simp only [go_sem, ↓reduceIte, reduceCtorEq, nA, nB, nC, nD, nE, nF] <;> and_intros <;> (apply hK1; clear hK1 K1))))
     simp only [Tryz.results172, go_sem, ↓reduceIte, reduceCtorEq, nA, nB, nC, nD, nE, nF]
     exact ⟨_, _, Weak.refl _, Hp.le.refl _, b, m', rfl, by simp only [upd_upd], hb1, hb2⟩
    refine (hl42 _ hbt (by omega)).mono ?_
    rintro _ _ ⟨b, m', rfl, rfl, hb1, hb2⟩
    refine ⟨b, rfl, fun hb => ⟨m', rfl, ?_⟩, fun hb => ?_⟩
    ·have := hb1 hb
     simp only [List.sum_cons, List.sum_nil]
     omega
    ·obtain ⟨h6, h7, rfl⟩ := hb2 hb
     rw [e2, List.foldl_append]
     simp only [List.sum_cons, List.sum_nil, List.foldl_cons, List.foldl_nil, Int.add_zero]
     exact ⟨by rw [Int.add_assoc (m + 1)], by omega, by omega⟩
   ·rintro _ h' (⟨j, hj, rfl, m', rfl, hP⟩ | ⟨rfl, rfl, hs1, hs2⟩)
    ·have hjk : j < kids.length := by simpa using hj
     refine hK1 _ ?_; clear hK1 K1
     (repeat (first | refine gO rfl ?_ | (refine gR fun K1 hK1 => ?_; simp only [go_sem, ↓reduceIte, reduceCtorEq, nA, nB, nC, nD, nE, nF] <;> and_intros <;> (apply hK1; clear hK1 K1))))
     simp only [Tryz.results127, go_sem, ↓reduceIte, reduceCtorEq, nA, nB, nC, nD, nE, nF]
     refine ⟨_, _, Weak.refl _, Hp.le.refl _, true, m', rfl, rfl, fun _ => ?_, fun h => by cases h⟩
     rw [manyF_eq, deepF_eq]
     have h2 := sum_take_le kids manyF (fun x hx => by have := hpos x hx; omega) (j + 1)
     have h3 := max_take kids deepF j hjk
     omega
    ·refine hK1 _ ?_; clear hK1 K1
     (repeat (first | refine gO rfl ?_ | (refine gR fun K1 hK1 => ?_; simp only [go_sem, ↓reduceIte, reduceCtorEq, nA, nB, nC, nD, nE, nF] <;> and_intros <;> (apply hK1; clear hK1 K1))))
     simp only [Tryz.results127, go_sem, ↓reduceIte, reduceCtorEq, nA, nB, nC, nD, nE, nF]
     simp only [List.length_map, List.take_length] at hs1 hs2 ⊢
     refine ⟨_, _, Weak.refl _, Hp.le.refl _, false, _, rfl, rfl, fun h => (by cases h), fun _ => ?_⟩
     rw [manyF_eq, deepF_eq]
     omega
def faultF (t : LT) : Int := if 200 < manyF t ∨ 12 < deepF t then 2 else partF t
theorem g_fault6 (d : Nat) (t : LT) (h0 : Hp) (hb : KC d t) (hd : manyF t ≤ 1000000000000000 ∧ d ≤ 1000) : ACalls Tryz.prog 10 [.agg (encL t)] h0 (fun r h' => r = .v (.int .i64 (faultF t)) ∧ h' = h0) := by
 have hlen := encL_len t
 have htk : List.take 6 (encL t) = encL t := List.take_of_length_le (Nat.le_of_eq hlen)
 refine gE Tryz.func10 rfl (by kernel_rfl) 17 rfl fun c => ?_
 (repeat (first | refine gO rfl ?_ | (refine gR fun K1 hK1 => ?_; simp only [go_sem, ↓reduceIte, reduceCtorEq, nA, nB, nC, nD, nE, nF, hlen, htk] <;> and_intros <;> first | (apply hK1; clear hK1 K1) | skip)))
 refine (g_size d t h0 hb hd).mono ?_; rintro _ hz ⟨rfl, hh⟩; apply hK1; clear hK1 K1; rw [hh]; clear hh hz
 (repeat (first | refine gO rfl ?_ | (refine gR fun K1 hK1 => ?_; simp only [go_sem, ↓reduceIte, reduceCtorEq, nA, nB, nC, nD, nE, nF, hlen, htk] <;> and_intros <;> (apply hK1; clear hK1 K1))))
 refine awp_cond (t := _) rfl (fun h1 => ?_) (fun h1 => ?_)
 ·(repeat (first | refine gO rfl ?_ | (refine gR fun K1 hK1 => ?_; simp only [go_sem, ↓reduceIte, reduceCtorEq, nA, nB, nC, nD, nE, nF, hlen, htk] <;> and_intros <;> (apply hK1; clear hK1 K1))))
  simp only [Tryz.results10, go_sem, ↓reduceIte, reduceCtorEq, nA, nB, nC, nD, nE, nF]
  exact ⟨_, _, Weak.refl _, Hp.le.refl _, by rw [faultF, if_pos (by simpa using h1)], rfl⟩
 ·(repeat (first | refine gO rfl ?_ | (refine gR fun K1 hK1 => ?_; simp only [go_sem, ↓reduceIte, reduceCtorEq, nA, nB, nC, nD, nE, nF, hlen, htk] <;> and_intros)))
  refine (g_part22 d t h0 hb).mono ?_; rintro _ hz ⟨rfl, hh⟩; apply hK1; clear hK1 K1; rw [hh]; clear hh hz
  (repeat (first | refine gO rfl ?_ | (refine gR fun K1 hK1 => ?_; simp only [go_sem, ↓reduceIte, reduceCtorEq, nA, nB, nC, nD, nE, nF] <;> and_intros <;> (apply hK1; clear hK1 K1))))
  simp only [Tryz.results10, go_sem, ↓reduceIte, reduceCtorEq, nA, nB, nC, nD, nE, nF]
  exact ⟨_, _, Weak.refl _, Hp.le.refl _, by rw [faultF, if_neg (by simp at h1; omega)], rfl⟩
theorem g_check7 (d : Nat) (t : LT) (h0 : Hp) (hb : KC d t) (hd : manyF t ≤ 1000000000000000 ∧ d ≤ 1000) : ACalls Tryz.prog 70 [.agg (encL t)] h0 (fun r h' => r = .v (.int .i64 (faultF t)) ∧ h' = h0) := by
 have hlen := encL_len t
 have htk : List.take 6 (encL t) = encL t := List.take_of_length_le (Nat.le_of_eq hlen)
 have hz := size_bd d t hb
 refine gE Tryz.func70 rfl (by kernel_rfl) 8 rfl fun c => ?_
 (repeat (first | refine gO rfl ?_ | (refine gM zM22 fun K1 hK1 => ?_; simp only [go_sem, ↓reduceIte, reduceCtorEq, nA, nB, nC, nD, nE, nF, hlen, htk] <;> and_intros <;> first | (apply hK1; clear hK1 K1) | skip)))
 intro i hi
 and_intros <;> first | (refine hK1 _ ?_; clear hK1 K1) | exact .inl trivial | exact .inr rfl | exact .inr True.intro | exact True.intro | omega
 (repeat (first | refine gO rfl ?_ | (refine gM zM22 fun K1 hK1 => ?_; simp only [go_sem, ↓reduceIte, reduceCtorEq, nA, nB, nC, nD, nE, nF, hlen, htk] <;> and_intros)))
 refine (g_large d t _ i 0 1 hb hd (by omega) (by omega) (upd_same _ _ _)).mono ?_
 rintro _ _ ⟨b, m', rfl, rfl, hb1, hb2⟩
 refine hK1 _ ?_; clear hK1 K1
 (repeat ((refine gO rfl ?_)))
 have hle : Hp.le h0 { H := upd h0.H i (some (oMany m')), T := h0.T } := ⟨fun j => by
  by_cases hj : j = i
  ·rw [hj]; exact .inl hi
  ·exact .inr (upd_other _ _ hj).symm, fun _ => .inr rfl⟩
 refine awp_cond (t := _) rfl (fun h1 => ?_) (fun h1 => ?_)
 ·(repeat (first | refine gO rfl ?_ | (refine gM zM22 fun K1 hK1 => ?_; simp only [go_sem, ↓reduceIte, reduceCtorEq, nA, nB, nC, nD, nE, nF, hlen, htk] <;> and_intros <;> (apply hK1; clear hK1 K1))))
  simp only [Tryz.results70, go_sem, ↓reduceIte, reduceCtorEq, nA, nB, nC, nD, nE, nF]
  exact ⟨_, h0, Weak.refl _, by simpa using hle, by rw [faultF, if_pos (by have := hb1 h1; omega)], rfl⟩
 ·(repeat (first | refine gO rfl ?_ | (refine gM zM22 fun K1 hK1 => ?_; simp only [go_sem, ↓reduceIte, reduceCtorEq, nA, nB, nC, nD, nE, nF, hlen, htk] <;> and_intros)))
  refine (g_part24 d t _ hb).mono ?_; rintro _ hz ⟨rfl, hh⟩; apply hK1; clear hK1 K1; rw [hh]; clear hh hz
  (repeat (first | refine gO rfl ?_ | (refine gM zM22 fun K1 hK1 => ?_; simp only [go_sem, ↓reduceIte, reduceCtorEq, nA, nB, nC, nD, nE, nF] <;> and_intros <;> (apply hK1; clear hK1 K1))))
  simp only [Tryz.results70, go_sem, ↓reduceIte, reduceCtorEq, nA, nB, nC, nD, nE, nF]
  exact ⟨_, h0, Weak.refl _, by simpa using hle, by rw [faultF, if_neg (by have := hb2 h1; omega)], rfl⟩
abbrev zPJE : List Nat := [0, 1, 2, 3, 4]
abbrev zPJP : List (Nat × List Nat × List Nat) := []
attribute [go_sem] zPJE zPJP
noncomputable def roundC (d : Nat) (t : LT) : List AV := [.v (.int .i64 (roundN d t : Nat)), .row 2 ((roundS d t).map encStep) none, .v (.int .i64 ((roundS d t).map (·.2)).sum)]
theorem roundS_some {d : Nat} {t : LT} {N : Nat} (h : RoundIs d t N) : roundS d t = (passesU d t N).2 ∧ roundE d t = 0 ∧ roundN d t = N := by
 have e := roundN_some h
 have h1 := h.1.1
 exact ⟨by rw [roundS, if_neg (by omega), e], by rw [roundE, if_neg (by omega)], e⟩
theorem roundS_none {d : Nat} {t : LT} (e : roundN d t = 0) : roundS d t = [] ∧ roundE d t = 2 := ⟨by rw [roundS, if_pos e], by rw [roundE, if_pos e]⟩
theorem roundC_none {d : Nat} {t : LT} (e : roundN d t = 0) : roundC d t = [.v (.int .i64 0), .row 2 [] none, .v (.int .i64 0)] := by
 rw [roundC, e, (roundS_none e).1]; rfl
theorem passesU_len (d : Nat) (t : LT) (j : Nat) : (passesU d t (j + 1)).2.length = (passesU d t j).2.length + (passU d t (passesU d t j).1).2.length := by simp only [passesU, List.length_append]
theorem sum_bdS (xs : List (ByteArray × Int)) (h : ∀ x ∈ xs, 1 ≤ x.2 ∧ x.2 ≤ 3600000) : 0 ≤ (xs.map (·.2)).sum ∧ (xs.map (·.2)).sum ≤ xs.length * 3600000 := by
 induction xs with
 | nil => simp
 | cons y l ih => have := h y (by simp); have := ih fun z hz => h z (by simp [hz]); simp only [List.map_cons, List.sum_cons, List.length_cons]; omega
theorem Weak.tup3 {a a' b b' c c' : AV} (ha : Weak a a') (hb : Weak b b') (hc : Weak c c') : Weak (.tup [a, b, c]) (.tup [a', b', c']) := fun G v hr => by
 cases hr with
 | tup _ vs u hl hu hr =>
  refine .tup _ vs u (by simpa using hl) (fun j hj => hu j (by simpa using hj)) (fun j hj => ?_)
  rcases j with _ | _ | _ | j
  ·exact ha G _ (hr 0 (by simp))
  ·exact hb G _ (hr 1 (by simp))
  ·exact hc G _ (hr 2 (by simp))
  ·simp only [List.length_cons, List.length_nil] at hj; omega
theorem g_roundP (d : Nat) (t : LT) (h : Hp) (hb : KC d t) (hv : VL d t) (hil : IL d t) : ACalls Tryz.prog 75 [.agg (encL t)] h (fun r _ => r = .tup [.agg (roundC d t), .v (.int .i64 (roundE d t))]) := by
 have hlen := encL_len t
 have htk : List.take 6 (encL t) = encL t := List.take_of_length_le (Nat.le_of_eq hlen)
 have hdk : List.drop 6 (encL t) = [] := List.drop_of_length_le (Nat.le_of_eq hlen)
 refine gE Tryz.func75 rfl (by kernel_rfl) 56 rfl fun c => ?_
 (repeat (first | refine gQ rfl ?_ | (refine gM zM23 fun K1 hK1 => ?_; simp only [go_sem, ↓reduceIte, reduceCtorEq, nA, nB, nC, nD, nE, nF, hlen, htk, hdk] <;> and_intros <;> first | (apply hK1; clear hK1 K1) | skip)))
 refine (g_newPart d t h hb).mono ?_
 rintro _ h1 ⟨a, rfl, hR, hS, hn1, hn2, hk1, hk2⟩
 refine hK1 _ ?_; clear hK1 K1
 first | refine gO rfl ?_ | (refine gM zM23 fun K1 hK1 => ?_; simp only [go_sem, ↓reduceIte, reduceCtorEq, nA, nB, nC, nD, nE, nF] <;> and_intros <;> first | (apply hK1; clear hK1 K1) | (intros; first | omega | decide | (simp_all <;> omega)) | skip)
 intro o ho
 refine hK1 _ ?_; clear hK1 K1
 refine vRem_nil ?_
 refine awp_ownPtr (cs := [.v (.slice none 0 0), .v (.int .i64 5000)]) o 0 2 (upd_same _ _ _) rfl (fun k hk => ?_)
 simp only [List.set_cons_zero, upd_upd]
 replace hk : h1.T k = none := hk
 replace ho : h1.H o = none := ho
 have hoa : o ∉ idsT a := fun hx => hR.ne.1 o hx ho
 have hka : k ∉ toksT a := fun hx => hR.ne.2 k hx hk
 have hok := passesU_ok d t hv
 (repeat (first | refine gQ rfl ?_ | (refine gM zM23 fun K1 hK1 => ?_; simp only [go_sem, ↓reduceIte, reduceCtorEq, nA, nB, nC, nD, nE, nF] <;> and_intros <;> (apply hK1; clear hK1 K1))))
 refine awp_seq ?_
 refine awp_block ?_
 refine awp_loopC (rl false [2, 1, 1, 3, 50]) 2 (fun g s => ∃ (j : Nat) (h2 : Hp), g + j = 5001 ∧ (passesU d t j).2.length ≤ 5000 ∧ (∀ n, 1 ≤ n → n < j → homeF d t (passesU d t n).1 = false) ∧ RAt XP h2 d t a (passesU d t j).1 ∧ OutAt h2 o k oEx (passesU d t j).2 ∧
  s = ⟨(AV.junk :: AV.junk :: ((.loc 0 0) :: AV.junk :: ((.ptr a.id 0) :: (.ptr o 0) :: (.loc 1 0) :: (jnk 50 [])))), [[.v (.int .i64 0), .v (.slice none 0 0), .v (.int .i64 0)], [.v (.int .i64 j), .v (.slice none 0 0), .v (.int .i64 0)]], h2⟩) 5001 ⟨0, _, by omega, by simp [passesU], fun n h1 h2 => by omega, hR.frame (fun i hi => upd_other _ _ (fun e => hoa (by subst e; exact hi))) (fun c hc => upd_other _ _ (fun e => hka (by subst e; exact hc))), ⟨upd_same _ _ _, upd_same _ _ _⟩, rfl⟩ ?_
 rintro g _ ⟨j, h2, hj, hlj, hnh, hR2, hO2, rfl⟩
 have hj5 : j ≤ 5000 := by have := (hok j).2.2; omega
 skip
 refine awp_seq ?_
 refine awp_join (rl false [2, 1, 1, 3, 50]) 2 (fun s => (∀ n, 1 ≤ n → n ≤ j → homeF d t (passesU d t n).1 = false) ∧ s = ⟨(AV.junk :: AV.junk :: ((.loc 0 0) :: AV.junk :: ((.ptr a.id 0) :: (.ptr o 0) :: (.loc 1 0) :: (jnk 50 [])))), [[.v (.int .i64 0), .v (.slice none 0 0), .v (.int .i64 0)], [.v (.int .i64 j), .v (.slice none 0 0), .v (.int .i64 0)]], h2⟩) ?_ ?_
 ·by_cases hj0 : j = 0
  ·have e0 : ((j : Int) == 0) = true := by simp; omega
   (repeat ((refine gM zM23 fun K1 hK1 => ?_; simp only [go_sem, ↓reduceIte, reduceCtorEq, nA, nB, nC, nD, nE, nF, e0] <;> and_intros <;> first | (apply hK1; clear hK1 K1) | skip)))
   refine ⟨.v (.bool true), rfl, hK1 _ ?_⟩; clear hK1 K1
   (repeat ((refine gO rfl ?_)))
   refine awp_cond (t := _) rfl (fun _ => ?_) (fun h => by cases h)
   (repeat ((refine gO rfl ?_)))
   exact ⟨fun n h1 h2 => by omega, rfl⟩
  ·have e0 : ((j : Int) == 0) = false := by simp; omega
   (repeat ((refine gM zM23 fun K1 hK1 => ?_; simp only [go_sem, ↓reduceIte, reduceCtorEq, nA, nB, nC, nD, nE, nF, e0] <;> and_intros <;> first | (intros; (simp_all <;> omega)) | skip)))
   refine (g_beginsG d t a _ h2 hv hR2 ((hok j).1.mono (by omega))).mono ?_; rintro _ hz ⟨rfl, hh⟩; refine ⟨rfl, hK1 _ ?_⟩; clear hK1 K1; rw [hh]; clear hh hz
   (repeat (first | refine gO rfl ?_ | (refine gM zM23 fun K1 hK1 => ?_; simp only [go_sem, ↓reduceIte, reduceCtorEq, nA, nB, nC, nD, nE, nF, e0] <;> and_intros <;> (apply hK1; clear hK1 K1))))
   cases eh : homeF d t (passesU d t j).1 with
   | true =>
    have hri : RoundIs d t j := ⟨by omega, hlj, eh, hnh⟩
    obtain ⟨r1, r2, r3⟩ := roundS_some hri
    have hlong := passes_long hil j
    have hO20 : h2.H o = some (.cells [.row 2 ((passesU d t j).2.map encStep) (some k), .v (.int .i64 5000)]) := hO2.1
    have hrc : roundC d t = [.v (.int .i64 j), .row 2 ((passesU d t j).2.map encStep) none, .v (.int .i64 ((passesU d t j).2.map (·.2)).sum)] := by rw [roundC, r1, r3]
    rw [hrc, r2]
    refine awp_cond (t := _) rfl (fun h => by cases h) (fun _ => ?_)
    generalize (passesU d t j).2 = xs at *
    (repeat (first | refine gQ rfl ?_ | (refine gM zM23 fun K1 hK1 => ?_; simp only [go_sem, ↓reduceIte, reduceCtorEq, nA, nB, nC, nD, nE, nF, hO20] <;> and_intros <;> (apply hK1; clear hK1 K1))))
    refine awp_seq ?_
    (repeat (first | refine gO rfl ?_ | (refine gM zM23 fun K1 hK1 => ?_; simp only [go_sem, ↓reduceIte, reduceCtorEq, nA, nB, nC, nD, nE, nF] <;> and_intros <;> (apply hK1; clear hK1 K1))))
    refine awp_loopC (rl false [2, 1, 3, 1, 36, 3, 11]) 2 (fun g s => ∃ m : Nat, g + m = xs.length ∧ s = ⟨(AV.junk :: AV.junk :: ((.loc 0 0) :: (jnk 3 ((.loc 1 0) :: (jnk 36 ((.row 2 (xs.map encStep) (some k)) :: (.v (.int .i64 xs.length)) :: (.v (.int .i64 m)) :: (jnk 11 []))))))),
     [[.v (.int .i64 0), .v (.slice none 0 0), .v (.int .i64 0)], [.v (.int .i64 j), .row 2 (xs.map encStep) (some k), .v (.int .i64 ((xs.map (·.2)).take m).sum)]], h2⟩) xs.length ⟨0, by omega, rfl⟩ ?_
    rintro g2 _ ⟨m, hm, rfl⟩
    have hsb : 0 ≤ ((xs.map (·.2)).take m).sum ∧ ((xs.map (·.2)).take m).sum ≤ 5000 * 3600000 := by
     have h9 := sum_bdS (xs.take m) fun x hx => hlong x (List.mem_of_mem_take hx)
     rw [← List.map_take]
     have h10 : ((xs.take m).length : Int) ≤ 5000 := by simp; omega
     omega
    (repeat (first | refine gO rfl ?_ | (refine gM zM23 fun K1 hK1 => ?_; simp only [go_sem, ↓reduceIte, reduceCtorEq, nA, nB, nC, nD, nE, nF] <;> and_intros <;> (apply hK1; clear hK1 K1))))
    refine awp_cond (t := _) rfl (fun h9 => ?_) (fun h9 => ?_)
    ·simp only [decide_eq_true_eq] at h9
     have hmx : m < xs.length := by omega
     have hgx : (xs.map encStep).getD m [] = encStep (xs.getD m default) := getD_enc encStep xs m default hmx
     have hxb := hlong _ (getD_mem' xs m default hmx)
     have e9 : ((xs.map (·.2)).take (m + 1)).sum = ((xs.map (·.2)).take m).sum + (xs.getD m default).2 := by
      rw [sum_take_succ _ _ (by simpa using hmx)]
      congr 1
      rw [List.getD_eq_getElem?_getD, List.getD_eq_getElem?_getD, List.getElem?_map, List.getElem?_eq_getElem hmx]; rfl
     generalize xs.getD m default = y at hgx hxb e9
     (repeat (first | refine gO rfl ?_ | (refine gM zM23 fun K1 hK1 => ?_; simp only [go_sem, ↓reduceIte, reduceCtorEq, nA, nB, nC, nD, nE, nF, Int.toNat_natCast, hgx, encStep] <;> and_intros <;> first | (apply hK1; clear hK1 K1) | (intros; (omega)))))
     refine ⟨g2 - 1, by omega, m + 1, by omega, ?_⟩
     rw [e9]; rfl
    ·simp only [decide_eq_false_iff_not] at h9
     have hmx : m = xs.length := by omega
     rw [List.take_of_length_le (by simp; omega)] at hsb ⊢
     (repeat (first | refine gO rfl ?_ | (refine gM zM23 fun K1 hK1 => ?_; simp only [go_sem, ↓reduceIte, reduceCtorEq, nA, nB, nC, nD, nE, nF] <;> and_intros <;> (apply hK1; clear hK1 K1))))
     simp only [Tryz.results75, go_sem, ↓reduceIte, reduceCtorEq, nA, nB, nC, nD, nE, nF]
     refine ⟨_, _, Weak.tup1 (Weak.agg (.cons (Weak.refl _) (.cons (Weak.row _ _ _) (.cons (Weak.refl _) .nil)))) (Weak.refl _), Hp.le.refl _, rfl⟩
   | false =>
    refine awp_cond (t := _) rfl (fun _ => ?_) (fun h => by cases h)
    (repeat ((refine gO rfl ?_)))
    exact ⟨fun n h1 h2 => by
     by_cases e : n = j
     ·rw [e]; exact eh
     ·exact hnh n h1 (by omega), rfl⟩
 ·rintro _ ⟨hnh2, rfl⟩
  (repeat (first | refine gO rfl ?_ | (refine gM zM23 fun K1 hK1 => ?_; simp only [go_sem, ↓reduceIte, reduceCtorEq, nA, nB, nC, nD, nE, nF] <;> and_intros)))
  refine (g_passP d t a _ h2 o k _ hv hR2 hS (hok j).1 hO2 hoa (by omega)).mono ?_
  rintro r h6 ⟨rfl, s2, out2, hR6, hO6, _, q1, q2, q3⟩
  have e5 := passesU_len d t j
  refine hK1 _ ?_; clear hK1 K1
  (repeat (first | refine gO rfl ?_ | (refine gM zM23 fun K1 hK1 => ?_; simp only [go_sem, ↓reduceIte, reduceCtorEq, nA, nB, nC, nD, nE, nF] <;> and_intros <;> first | (apply hK1; clear hK1 K1) | (intros; (omega)) | skip)))
  refine (g_full28 o k h6 _ hO6).mono ?_; rintro _ hz ⟨rfl, hh⟩; apply hK1; clear hK1 K1; rw [hh]; clear hh hz
  by_cases hl6 : (passesU d t (j + 1)).2.length ≤ 5000
  ·obtain ⟨rfl, rfl⟩ := q2 hlj (by omega)
   have hj6 : j + 1 ≤ 5000 := by have := (hok (j + 1)).2.2; omega
   have hnf : decide ((5000 : Int) < ((passesU d t j).2 ++ (passU d t (passesU d t j).1).2).length) = false := by simp only [decide_eq_false_iff_not, List.length_append]; omega
   have hnf2 : decide ((5000 : Int) < (j : Int) + 1) = false := by simp only [decide_eq_false_iff_not]; omega
   (repeat (first | refine gO rfl ?_ | (refine gM zM23 fun K1 hK1 => ?_; simp only [go_sem, ↓reduceIte, reduceCtorEq, nA, nB, nC, nD, nE, nF, hnf, hnf2] <;> and_intros <;> (apply hK1; clear hK1 K1))))
   refine awp_cond (t := _) rfl (fun h => by cases h) (fun _ => ?_)
   (repeat ((refine gO rfl ?_)))
   exact ⟨g - 1, by omega, j + 1, h6, by omega, hl6, fun n h1 h2 => hnh2 n h1 (by omega), hR6, hO6, rfl⟩
  ·obtain ⟨z1, _⟩ := q3 hlj (by omega)
   have hr0 : roundN d t = 0 := round_long (j := j) (by omega) hnh2
   have hnf : decide ((5000 : Int) < out2.length) = true := by simp only [decide_eq_true_eq]; omega
   rw [roundC_none hr0, (roundS_none hr0).2]
   (repeat (first | refine gO rfl ?_ | (refine gM zM23 fun K1 hK1 => ?_; simp only [go_sem, ↓reduceIte, reduceCtorEq, nA, nB, nC, nD, nE, nF, hnf] <;> and_intros <;> (apply hK1; clear hK1 K1))))
   refine awp_cond (t := _) rfl (fun _ => ?_) (fun h => by cases h)
   (repeat (first | refine gO rfl ?_ | (refine gM zM23 fun K1 hK1 => ?_; simp only [go_sem, ↓reduceIte, reduceCtorEq, nA, nB, nC, nD, nE, nF] <;> and_intros <;> (apply hK1; clear hK1 K1))))
   simp only [Tryz.results75, go_sem, ↓reduceIte, reduceCtorEq, nA, nB, nC, nD, nE, nF]
   refine ⟨_, _, Weak.tup1 (Weak.agg (.cons (Weak.refl _) (.cons (Weak.nil 2 0 0 ⟨rfl, rfl⟩) (.cons (Weak.refl _) .nil)))) (Weak.refl _), Hp.le.refl _, rfl⟩
theorem g_roundR (d : Nat) (t : LT) (h : Hp) (hb : KC d t) (hv : VL d t) : ACalls Tryz.prog 76 [.agg (encL t)] h (fun r _ => r = .tup [.v (.int .i64 (roundN d t : Nat)), .row 2 ((roundS d t).map encStep) none, .v (.int .i64 (roundE d t))]) := by
 have hlen := encL_len t
 have htk : List.take 6 (encL t) = encL t := List.take_of_length_le (Nat.le_of_eq hlen)
 have hdk : List.drop 6 (encL t) = [] := List.drop_of_length_le (Nat.le_of_eq hlen)
 refine gE Tryz.func76 rfl (by kernel_rfl) 20 rfl fun c => ?_
 (repeat (first | refine gQ rfl ?_ | ((refine gM zM24 fun K1 hK1 => ?_; simp only [go_sem, ↓reduceIte, reduceCtorEq, nA, nB, nC, nD, nE, nF, hlen, htk, hdk] <;> and_intros <;> first | (apply hK1; clear hK1 K1) | skip))))
 intro o ho
 refine hK1 _ ?_; clear hK1 K1
 refine vRem_nil ?_
 refine awp_ownPtr (cs := [.v (.slice none 0 0)]) o 0 2 (upd_same _ _ _) rfl (fun k hk => ?_)
 simp only [List.set_cons_zero, upd_upd]
 replace hk : h.T k = none := hk
 (repeat (((refine gM zM24 fun K1 hK1 => ?_; simp only [go_sem, ↓reduceIte, reduceCtorEq, nA, nB, nC, nD, nE, nF, hlen, htk, hdk] <;> and_intros))))
 refine (g_newRunner d t _ hb).mono ?_
 rintro _ h1 ⟨a, rfl, hR, hS, hn1, hn2, hk1, hk2⟩
 refine hK1 _ ?_; clear hK1 K1
 have hoa : o ∉ idsT a := fun hx => by have := hn1 o hx; rw [show (_ : Hp).H o = _ from upd_same h.H o _] at this; cases this
 have hH1 : h1.H o = some (.cells [.row 2 [] (some k)]) := (hk1 o (by rw [show (_ : Hp).H o = _ from upd_same h.H o _]; simp)).trans (upd_same _ _ _)
 have hT1 : h1.T k = some (.tail 0) := (hk2 k (by rw [show (_ : Hp).T k = _ from upd_same h.T k _]; simp)).trans (upd_same _ _ _)
 have hO1 : OutAt h1 o k [] [] := ⟨hH1, hT1⟩
 have hok := passesU_ok d t hv
 (repeat (first | refine gQ rfl ?_ | ((refine gM zM24 fun K1 hK1 => ?_; simp only [go_sem, ↓reduceIte, reduceCtorEq, nA, nB, nC, nD, nE, nF] <;> and_intros <;> (apply hK1; clear hK1 K1)))))
 refine awp_seq ?_
 (repeat (first | refine gO rfl ?_ | ((refine gM zM24 fun K1 hK1 => ?_; simp only [go_sem, ↓reduceIte, reduceCtorEq, nA, nB, nC, nD, nE, nF] <;> and_intros <;> (apply hK1; clear hK1 K1)))))
 refine awp_loopC (rl false [5, 3, 13]) 0 (fun g s => ∃ (j : Nat) (h2 : Hp), g + j = 5000 ∧ (passesU d t j).2.length ≤ 5000 ∧ (∀ n, 1 ≤ n → n ≤ j → homeF d t (passesU d t n).1 = false) ∧ RAt XR h2 d t a (passesU d t j).1 ∧ OutAt h2 o k [] (passesU d t j).2 ∧
  s = ⟨((jnk 5 ((.ptr o 0) :: (.ptr a.id 0) :: (.v (.int .i64 ((j : Int) + 1))) :: (jnk 13 [])))), [], h2⟩) 5000 ⟨0, h1, by omega, by simp [passesU], fun n h1 h2 => by omega, hR, hO1, rfl⟩ ?_
 rintro g _ ⟨j, h2, hj, hlj, hnh, hR2, hO2, rfl⟩
 have hj5 : j ≤ 5000 := by omega
 have e5 := passesU_len d t j
 (repeat (first | refine gO rfl ?_ | ((refine gM zM24 fun K1 hK1 => ?_; simp only [go_sem, ↓reduceIte, reduceCtorEq, nA, nB, nC, nD, nE, nF] <;> and_intros <;> (apply hK1; clear hK1 K1)))))
 refine awp_cond (t := _) rfl (fun h3 => ?_) (fun h3 => ?_)
 ·simp only [decide_eq_true_eq] at h3
  (repeat (first | refine gO rfl ?_ | ((refine gM zM24 fun K1 hK1 => ?_; simp only [go_sem, ↓reduceIte, reduceCtorEq, nA, nB, nC, nD, nE, nF] <;> and_intros))))
  refine (g_passR d t a _ h2 o k _ hv hR2 hS (hok j).1 hO2 hoa hlj).mono ?_
  intro r h4 hres
  unfold PRes at hres
  split at hres
  ·rename_i hle
   obtain ⟨rfl, hR4, hO4, _⟩ := hres
   have hl6 : (passesU d t (j + 1)).2.length ≤ 5000 := by omega
   refine hK1 _ ?_; clear hK1 K1
   (repeat (first | refine gO rfl ?_ | ((refine gM zM24 fun K1 hK1 => ?_; simp only [go_sem, ↓reduceIte, reduceCtorEq, nA, nB, nC, nD, nE, nF] <;> and_intros <;> (apply hK1; clear hK1 K1)))))
   refine awp_cond (t := _) rfl (fun h => by cases h) (fun _ => ?_)
   (repeat (first | refine gO rfl ?_ | ((refine gM zM24 fun K1 hK1 => ?_; simp only [go_sem, ↓reduceIte, reduceCtorEq, nA, nB, nC, nD, nE, nF] <;> and_intros))))
   refine (g_homeG d t a (passesU d t (j + 1)).1 h4 hv hR4 ((hok (j + 1)).1.mono (by omega))).mono ?_; rintro _ hz ⟨rfl, hh⟩; apply hK1; clear hK1 K1; rw [hh]; clear hh hz
   (repeat ((refine gO rfl ?_)))
   cases eh : homeF d t (passesU d t (j + 1)).1 with
   | true =>
    have hri : RoundIs d t (j + 1) := ⟨by omega, hl6, eh, fun n h1 h2 => hnh n h1 (by omega)⟩
    obtain ⟨r1, r2, r3⟩ := roundS_some hri
    have hO40 : h4.H o = some (.cells [.row 2 ((passesU d t (j + 1)).2.map encStep) (some k)]) := hO4.1
    rw [r1, r2, r3]
    refine awp_cond (t := _) rfl (fun _ => ?_) (fun h => by cases h)
    (repeat (first | refine gO rfl ?_ | ((((with_reducible refine xS ?_); refine uD 9 zM24 zPJE zPJP 21 rfl (by kernel_rfl) ?_)) <;> ((try with_reducible intro K1 hK1); simp only [go_sem, ↓reduceIte, reduceCtorEq, nA, nB, nC, nD, nE, nF, hO40] <;> and_intros <;> (apply hK1; clear hK1 K1)))))
    simp only [Tryz.results76, go_sem, ↓reduceIte, reduceCtorEq, nA, nB, nC, nD, nE, nF]
    exact ⟨_, _, Weak.tup3 (Weak.refl _) (Weak.row _ _ _) (Weak.refl _), Hp.le.refl _, rfl⟩
   | false =>
    refine awp_cond (t := _) rfl (fun h => by cases h) (fun _ => ?_)
    (repeat (first | refine gO rfl ?_ | ((refine gM zM24 fun K1 hK1 => ?_; simp only [go_sem, ↓reduceIte, reduceCtorEq, nA, nB, nC, nD, nE, nF] <;> and_intros <;> first | (apply hK1; clear hK1 K1) | (intros; (omega))))))
    exact ⟨g - 1, by omega, j + 1, h4, by omega, hl6, fun n h1 h2 => by
     by_cases e : n = j + 1
     ·rw [e]; exact eh
     ·exact hnh n h1 (by omega), hR4, hO4, rfl⟩
  ·rename_i hle
   subst hres
   have hr0 : roundN d t = 0 := round_long (j := j) (by omega) hnh
   refine hK1 _ ?_; clear hK1 K1
   rw [(roundS_none hr0).1, (roundS_none hr0).2, hr0]
   (repeat (first | refine gO rfl ?_ | ((refine gM zM24 fun K1 hK1 => ?_; simp only [go_sem, ↓reduceIte, reduceCtorEq, nA, nB, nC, nD, nE, nF] <;> and_intros <;> (apply hK1; clear hK1 K1)))))
   refine awp_cond (t := _) rfl (fun _ => ?_) (fun h => by cases h)
   (repeat (first | refine gO rfl ?_ | ((refine gM zM24 fun K1 hK1 => ?_; simp only [go_sem, ↓reduceIte, reduceCtorEq, nA, nB, nC, nD, nE, nF] <;> and_intros <;> (apply hK1; clear hK1 K1)))))
   simp only [Tryz.results76, go_sem, ↓reduceIte, reduceCtorEq, nA, nB, nC, nD, nE, nF]
   exact ⟨_, _, Weak.tup3 (Weak.refl _) (Weak.nil 2 0 0 ⟨rfl, rfl⟩) (Weak.refl _), Hp.le.refl _, rfl⟩
 ·simp only [decide_eq_false_iff_not] at h3
  have hj9 : j = 5000 := by omega
  have hr0 : roundN d t = 0 := round_long (j := j) (by have := (hok (j + 1)).2.2; omega) hnh
  rw [(roundS_none hr0).1, (roundS_none hr0).2, hr0]
  (repeat (first | refine gO rfl ?_ | ((refine gM zM24 fun K1 hK1 => ?_; simp only [go_sem, ↓reduceIte, reduceCtorEq, nA, nB, nC, nD, nE, nF] <;> and_intros <;> (apply hK1; clear hK1 K1)))))
  simp only [Tryz.results76, go_sem, ↓reduceIte, reduceCtorEq, nA, nB, nC, nD, nE, nF]
  exact ⟨_, _, Weak.tup3 (Weak.refl _) (Weak.nil 2 0 0 ⟨rfl, rfl⟩) (Weak.refl _), Hp.le.refl _, rfl⟩
abbrev zPKE : List Nat := [0, 1, 2, 3, 4, 5, 6, 7, 8, 9, 10, 11, 12, 13, 14]
abbrev zPKP : List (Nat × List Nat × List Nat) := []
abbrev zPLE : List Nat := [0, 1, 2, 3, 4, 5, 6, 7]
abbrev zPLP : List (Nat × List Nat × List Nat) := []
abbrev zPME : List Nat := [0, 1, 2, 3, 4, 5, 6, 7, 8, 9, 10, 11, 12, 13, 14]
abbrev zPMP : List (Nat × List Nat × List Nat) := []
attribute [go_sem] zPKE zPKP zPLE zPLP zPME zPMP
theorem part_of_fault {t : LT} (h : faultF t = 0) : partF t = 0 := by
 unfold faultF at h
 split at h
 ·cases h
 ·exact h
noncomputable def rdE (d : Nat) (t : LT) : Int := if faultF t = 0 then roundE d t else faultF t
noncomputable def rdN (d : Nat) (t : LT) : Nat := if faultF t = 0 then roundN d t else 0
noncomputable def rdS (d : Nat) (t : LT) : List (ByteArray × Int) := if faultF t = 0 then roundS d t else []
theorem g_rounded (d : Nat) (t : LT) (h : Hp) (hb : KC d t) (hd : manyF t ≤ 1000000000000000 ∧ d ≤ 1000) : ACalls Tryz.prog 15 [.agg (encL t)] h (fun r _ => r = .tup [.v (.int .i64 (rdN d t : Nat)), .row 2 ((rdS d t).map encStep) none, .v (.int .i64 (rdE d t))]) := by
 have hlen := encL_len t
 have htk : List.take 6 (encL t) = encL t := List.take_of_length_le (Nat.le_of_eq hlen)
 have hdk : List.drop 6 (encL t) = [] := List.drop_of_length_le (Nat.le_of_eq hlen)
 unfold rdE rdN rdS
 refine gE Tryz.func15 rfl (by kernel_rfl) 15 rfl fun c => ?_
 (repeat (first | refine gO rfl ?_ | (refine gR fun K1 hK1 => ?_; simp only [go_sem, ↓reduceIte, reduceCtorEq, nA, nB, nC, nD, nE, nF, hlen, htk, hdk] <;> and_intros <;> first | (apply hK1; clear hK1 K1) | skip)))
 refine (g_fault6 d t h hb hd).mono ?_; rintro _ hz ⟨rfl, hh⟩; apply hK1; clear hK1 K1; rw [hh]; clear hh hz
 (repeat (first | refine gO rfl ?_ | (refine gR fun K1 hK1 => ?_; simp only [go_sem, ↓reduceIte, reduceCtorEq, nA, nB, nC, nD, nE, nF, hlen, htk, hdk] <;> and_intros <;> (apply hK1; clear hK1 K1))))
 by_cases hf : faultF t = 0
 ·have hv := vl_of d t hb (part_of_fault hf)
  rw [if_pos hf, if_pos hf, if_pos hf]
  refine awp_cond (t := _) rfl (fun h9 => by simp [hf] at h9) (fun _ => ?_)
  (repeat (first | refine gO rfl ?_ | (refine gR fun K1 hK1 => ?_; simp only [go_sem, ↓reduceIte, reduceCtorEq, nA, nB, nC, nD, nE, nF, hlen, htk, hdk] <;> and_intros)))
  refine (g_roundR d t h hb hv).mono ?_
  rintro _ h2 rfl
  refine hK1 _ ?_; clear hK1 K1
  (repeat (first | refine gO rfl ?_ | (refine gR fun K1 hK1 => ?_; simp only [go_sem, ↓reduceIte, reduceCtorEq, nA, nB, nC, nD, nE, nF] <;> and_intros <;> (apply hK1; clear hK1 K1))))
  simp only [Tryz.results15, go_sem, ↓reduceIte, reduceCtorEq, nA, nB, nC, nD, nE, nF]
  exact ⟨_, _, Weak.refl _, Hp.le.refl _, rfl⟩
 ·rw [if_neg hf, if_neg hf, if_neg hf]
  refine awp_cond (t := _) rfl (fun _ => ?_) (fun h9 => by simp [hf] at h9)
  (repeat (first | refine gO rfl ?_ | (refine gR fun K1 hK1 => ?_; simp only [go_sem, ↓reduceIte, reduceCtorEq, nA, nB, nC, nD, nE, nF] <;> and_intros <;> (apply hK1; clear hK1 K1))))
  simp only [Tryz.results15, go_sem, ↓reduceIte, reduceCtorEq, nA, nB, nC, nD, nE, nF]
  exact ⟨_, _, Weak.tup3 (Weak.refl _) (Weak.nil 2 0 0 ⟨rfl, rfl⟩) (Weak.refl _), Hp.le.refl _, rfl⟩
abbrev zPNE : List Nat := [0, 1, 2, 3, 4, 5, 6, 7, 8, 9, 10]
abbrev zPNP : List (Nat × List Nat × List Nat) := []
attribute [go_sem] zPNE zPNP
def orI : List Int → Int
 | [] => 0
 | x :: l => if x = 0 then orI l else x
theorem orI_at (l : List Int) (j : Nat) (h : j < l.length) (h0 : ∀ i, i < j → l.getD i 0 = 0) (hn : l.getD j 0 ≠ 0) : orI l = l.getD j 0 := by
 induction l generalizing j with
 | nil => simp at h
 | cons x l ih =>
  cases j with
  | zero => rw [orI, if_neg (by simpa using hn)]; rfl
  | succ j =>
   have hx := h0 0 (by omega)
   simp only [List.getD_cons_zero] at hx
   rw [orI, if_pos hx, List.getD_cons_succ]
   exact ih j (by simpa using h) (fun i hi => by simpa using h0 (i + 1) (by omega)) (by simpa using hn)
theorem orI_zero (l : List Int) (h : ∀ i, i < l.length → l.getD i 0 = 0) : orI l = 0 := by
 induction l with
 | nil => rfl
 | cons x l ih =>
  have hx := h 0 (by simp)
  simp only [List.getD_cons_zero] at hx
  rw [orI, if_pos hx]
  exact ih fun i hi => by simpa using h (i + 1) (by simpa using hi)
theorem g_orG (l : List Int) (h : Hp) (hl : l.length ≤ 1000) : ACalls Tryz.prog 16 [.row 1 (l.map encI) none] h (fun r h' => r = .v (.int .i64 (orI l)) ∧ h' = h) := by
 refine gE Tryz.func16 rfl (by kernel_rfl) 17 rfl fun c => ?_
 (repeat (first | refine gO rfl ?_ | (refine gR fun K1 hK1 => ?_; simp only [go_sem, ↓reduceIte, reduceCtorEq, nA, nB, nC, nD, nE, nF] <;> and_intros <;> (apply hK1; clear hK1 K1))))
 refine awp_loopC (rl false [3, 1, 2, 3, 9]) 0 (fun g s => ∃ j : Nat, g + j = l.length ∧ (∀ i, i < j → l.getD i 0 = 0) ∧
  s = ⟨((jnk 3 ((.v (.int .i64 0)) :: AV.junk :: AV.junk :: ((.row 1 (l.map encI) none) :: (.v (.int .i64 l.length)) :: (.v (.int .i64 j)) :: (jnk 9 []))))), [], h⟩) l.length ⟨0, by omega, by omega, rfl⟩ ?_
 rintro g _ ⟨j, hj, h0, rfl⟩
 (repeat (first | refine gO rfl ?_ | (refine gR fun K1 hK1 => ?_; simp only [go_sem, ↓reduceIte, reduceCtorEq, nA, nB, nC, nD, nE, nF] <;> and_intros <;> (apply hK1; clear hK1 K1))))
 refine awp_cond (t := _) rfl (fun h3 => ?_) (fun h3 => ?_)
 ·simp only [decide_eq_true_eq] at h3
  have hjl : j < l.length := by omega
  have hgx : (l.map encI).getD j [] = [.v (.int .i64 (l.getD j 0))] := getD_enc encI l j 0 hjl
  have hat := orI_at l j hjl h0
  obtain ⟨x, hx⟩ : ∃ x, x = l.getD j 0 := ⟨_, rfl⟩
  rw [← hx] at hgx hat
  (repeat (first | refine gO rfl ?_ | (refine gR fun K1 hK1 => ?_; simp only [go_sem, ↓reduceIte, reduceCtorEq, nA, nB, nC, nD, nE, nF, Int.toNat_natCast, hgx] <;> and_intros <;> first | (apply hK1; clear hK1 K1) | (intros; (omega)))))
  refine awp_cond (t := _) rfl (fun h4 => ?_) (fun h4 => ?_)
  ·have h4' : x ≠ 0 := by simpa using h4
   (repeat (first | refine gO rfl ?_ | (refine gR fun K1 hK1 => ?_; simp only [go_sem, ↓reduceIte, reduceCtorEq, nA, nB, nC, nD, nE, nF] <;> and_intros <;> (apply hK1; clear hK1 K1))))
   simp only [Tryz.results16, go_sem, ↓reduceIte, reduceCtorEq, nA, nB, nC, nD, nE, nF]
   exact ⟨_, _, Weak.refl _, Hp.le.refl _, by rw [hat h4'], rfl⟩
  ·have h4' : x = 0 := by simpa using h4
   (repeat (first | refine gO rfl ?_ | (refine gR fun K1 hK1 => ?_; simp only [go_sem, ↓reduceIte, reduceCtorEq, nA, nB, nC, nD, nE, nF] <;> and_intros <;> first | (apply hK1; clear hK1 K1) | (intros; (omega)))))
   exact ⟨g - 1, by omega, j + 1, by omega, fun i hi => by
    by_cases e : i = j
    ·rw [e, ← hx]; exact h4'
    ·exact h0 i (by omega), rfl⟩
 ·simp only [decide_eq_false_iff_not] at h3
  have hjl : j = l.length := by omega
  subst hjl
  (repeat (first | refine gO rfl ?_ | (refine gR fun K1 hK1 => ?_; simp only [go_sem, ↓reduceIte, reduceCtorEq, nA, nB, nC, nD, nE, nF] <;> and_intros <;> (apply hK1; clear hK1 K1))))
  simp only [Tryz.results16, go_sem, ↓reduceIte, reduceCtorEq, nA, nB, nC, nD, nE, nF]
  exact ⟨_, _, Weak.refl _, Hp.le.refl _, by rw [orI_zero l h0], rfl⟩
noncomputable def rdC (d : Nat) (t : LT) : List AV := [.v (.int .i64 (rdN d t : Nat)), .row 2 ((rdS d t).map encStep) none, .v (.int .i64 ((rdS d t).map (·.2)).sum)]
theorem g_checked (d : Nat) (t : LT) (h : Hp) (hb : KC d t) (hd : manyF t ≤ 1000000000000000 ∧ d ≤ 1000) : ACalls Tryz.prog 77 [.agg (encL t)] h (fun r _ => r = .tup [.agg (rdC d t), .v (.int .i64 (rdE d t))]) := by
 have hlen := encL_len t
 have htk : List.take 6 (encL t) = encL t := List.take_of_length_le (Nat.le_of_eq hlen)
 have hdk : List.drop 6 (encL t) = [] := List.drop_of_length_le (Nat.le_of_eq hlen)
 unfold rdC rdE rdN rdS
 refine gE Tryz.func77 rfl (by kernel_rfl) 14 rfl fun c => ?_
 (repeat (first | refine gO rfl ?_ | (refine gM zM25 fun K1 hK1 => ?_; simp only [go_sem, ↓reduceIte, reduceCtorEq, nA, nB, nC, nD, nE, nF, hlen, htk, hdk] <;> and_intros <;> first | (apply hK1; clear hK1 K1) | skip)))
 refine (g_check7 d t h hb hd).mono ?_; rintro _ hz ⟨rfl, hh⟩; apply hK1; clear hK1 K1; rw [hh]; clear hh hz
 (repeat (first | refine gO rfl ?_ | (refine gM zM25 fun K1 hK1 => ?_; simp only [go_sem, ↓reduceIte, reduceCtorEq, nA, nB, nC, nD, nE, nF, hlen, htk, hdk] <;> and_intros <;> (apply hK1; clear hK1 K1))))
 by_cases hf : faultF t = 0
 ·have hv := vl_of d t hb (part_of_fault hf)
  simp only [if_pos hf]
  refine awp_cond (t := _) rfl (fun h9 => by simp [hf] at h9) (fun _ => ?_)
  (repeat (first | refine gO rfl ?_ | (refine gM zM25 fun K1 hK1 => ?_; simp only [go_sem, ↓reduceIte, reduceCtorEq, nA, nB, nC, nD, nE, nF, hlen, htk, hdk] <;> and_intros)))
  refine (g_roundP d t h hb hv (il_of d t (part_of_fault hf))).mono ?_
  rintro _ h2 rfl
  refine hK1 _ ?_; clear hK1 K1
  (repeat (first | refine gO rfl ?_ | (refine gM zM25 fun K1 hK1 => ?_; simp only [go_sem, ↓reduceIte, reduceCtorEq, nA, nB, nC, nD, nE, nF, roundC] <;> and_intros <;> (apply hK1; clear hK1 K1))))
  simp only [Tryz.results77, go_sem, ↓reduceIte, reduceCtorEq, nA, nB, nC, nD, nE, nF]
  exact ⟨_, _, Weak.refl _, Hp.le.refl _, rfl⟩
 ·simp only [if_neg hf]
  refine awp_cond (t := _) rfl (fun _ => ?_) (fun h9 => by simp [hf] at h9)
  (repeat (first | refine gO rfl ?_ | (refine gM zM25 fun K1 hK1 => ?_; simp only [go_sem, ↓reduceIte, reduceCtorEq, nA, nB, nC, nD, nE, nF] <;> and_intros <;> (apply hK1; clear hK1 K1))))
  simp only [Tryz.results77, go_sem, ↓reduceIte, reduceCtorEq, nA, nB, nC, nD, nE, nF]
  exact ⟨_, _, Weak.tup1 (Weak.agg (.cons (Weak.refl _) (.cons (Weak.nil 2 0 0 ⟨rfl, rfl⟩) (.cons (Weak.refl _) .nil)))) (Weak.refl _), Hp.le.refl _, rfl⟩
theorem rd_bad {d : Nat} {t : LT} (h : rdE d t ≠ 0) : rdS d t = [] ∧ rdN d t = 0 := by
 unfold rdE at h
 unfold rdS rdN
 by_cases hf : faultF t = 0
 ·rw [if_pos hf] at h
  rw [if_pos hf, if_pos hf]
  unfold roundE at h
  unfold roundS
  split at h
  ·rename_i e; rw [if_pos e, e]; exact ⟨rfl, rfl⟩
  ·exact absurd rfl h
 ·rw [if_neg hf, if_neg hf]; exact ⟨rfl, rfl⟩
theorem g_RoundG (d : Nat) (t : LT) (h : Hp) (hb : KC d t) (hd : manyF t ≤ 1000000000000000 ∧ d ≤ 1000) : ACalls Tryz.prog 21 [.agg (encL t)] h (fun r _ => r = .tup [.v (.int .i64 (rdN d t : Nat)), .v (.int .i64 (rdS d t).length), .v (.int .i64 ((rdS d t).map (·.2)).sum), .v (.int .i64 (rdE d t))]) := by
 have hlen := encL_len t
 have htk : List.take 6 (encL t) = encL t := List.take_of_length_le (Nat.le_of_eq hlen)
 have hdk : List.drop 6 (encL t) = [] := List.drop_of_length_le (Nat.le_of_eq hlen)
 have hbad := rd_bad (d := d) (t := t)
 have hck := g_checked d t h hb hd
 unfold rdC at hck
 generalize rdS d t = xs at *
 generalize rdN d t = n at *
 generalize rdE d t = e at *
 generalize hs : (xs.map (·.2)).sum = s at *
 refine gE Tryz.func21 rfl (by kernel_rfl) 21 rfl fun c => ?_
 (repeat (first | refine gO rfl ?_ | ((refine gM zM26 fun K1 hK1 => ?_; simp only [go_sem, ↓reduceIte, reduceCtorEq, nA, nB, nC, nD, nE, nF, hlen, htk, hdk] <;> and_intros <;> first | (apply hK1; clear hK1 K1) | skip))))
 refine hck.mono ?_
 rintro _ h2 rfl
 refine hK1 _ ?_; clear hK1 K1
 (repeat (first | refine gO rfl ?_ | ((refine gM zM26 fun K1 hK1 => ?_; simp only [go_sem, ↓reduceIte, reduceCtorEq, nA, nB, nC, nD, nE, nF] <;> and_intros <;> (apply hK1; clear hK1 K1)))))
 by_cases he : e = 0
 ·subst he
  refine awp_cond (t := _) rfl (fun h9 => by simp at h9) (fun _ => ?_)
  (repeat (first | refine gO rfl ?_ | ((((with_reducible refine xS ?_); refine uD 4 zM26 zPNE zPNP 22 rfl (by kernel_rfl) ?_)) <;> ((try with_reducible intro K1 hK1); simp only [go_sem, ↓reduceIte, reduceCtorEq, nA, nB, nC, nD, nE, nF] <;> and_intros <;> (apply hK1; clear hK1 K1)))))
  simp only [Tryz.results21, go_sem, ↓reduceIte, reduceCtorEq, nA, nB, nC, nD, nE, nF]
  exact ⟨_, _, Weak.refl _, Hp.le.refl _, rfl⟩
 ·obtain ⟨rfl, rfl⟩ := hbad he
  subst hs
  refine awp_cond (t := _) rfl (fun _ => ?_) (fun h9 => by simp [he] at h9)
  (repeat (first | refine gO rfl ?_ | ((refine gM zM26 fun K1 hK1 => ?_; simp only [go_sem, ↓reduceIte, reduceCtorEq, nA, nB, nC, nD, nE, nF] <;> and_intros <;> (apply hK1; clear hK1 K1)))))
  simp only [Tryz.results21, go_sem, ↓reduceIte, reduceCtorEq, nA, nB, nC, nD, nE, nF]
  exact ⟨_, _, Weak.refl _, Hp.le.refl _, rfl⟩
theorem encX_weakL : ∀ (d : Nat) (t : LT), LC d t → ∀ (G : Gh) (us : List Value), RepL G (encX t) us → RepL G (encL t) us
 | 0, _, h => h.elim
 | d + 1, .mk kind item long many kids shares, hb => fun G us hu => by
  obtain ⟨b1, b2, b3, b4, b5, b6, b7, b8⟩ := hb
  rw [encX_eq] at hu
  rw [encL_eq]
  refine hu.of6 (fun _ h => h) (fun _ h => h) (fun _ h => h) (fun _ h => h) (fun x h => ?_) (fun x h => ?_)
  ·have hz : ∀ y ∈ kids.map encX, y.length = 6 := fun y hy => by obtain ⟨t, _, rfl⟩ := List.mem_map.1 hy; exact encX_len t
   have hz' : ∀ y ∈ kids.map encL, y.length = 6 := fun y hy => by obtain ⟨t, _, rfl⟩ := List.mem_map.1 hy; exact encL_len t
   have key : Rep G (.row 6 (kids.map encX) none) x := by
    cases kids with
    | nil => exact Weak.nil 6 0 0 ⟨rfl, rfl⟩ G x h
    | cons y ys => exact h
   refine key.rowFlat (GLe.refl G) (by simp) hz' (RepL.flat (by simp) hz fun i a b us2 h2 => ?_)
   simp only [List.length_map] at a
   simp only [List.getElem_map] at h2 ⊢
   exact encX_weakL d _ (b8 _ (List.getElem_mem _)) G us2 h2
  ·cases shares with
   | nil => exact Weak.nil 1 0 0 ⟨rfl, rfl⟩ G x h
   | cons y ys => exact h
theorem encX_weak (d : Nat) (t : LT) (hb : LC d t) : Weak (.agg (encX t)) (.agg (encL t)) := fun G v hr => by
 obtain ⟨vs, rfl, hvs⟩ := RepL.of_agg hr
 exact (encX_weakL d t hb G vs hvs).agg
def tA : LT := .mk 1 ⟨#[97]⟩ 5 0 [] []
def tB : LT := .mk 1 ⟨#[98]⟩ 7 0 [] []
def tL : LT := .mk 3 ⟨#[]⟩ 0 0 [tA, tB] []
theorem g_loopedG (h : Hp) : ACalls Tryz.prog 17 [] h (fun r _ => r = .v (.bool true)) := by
 have hLC : LC 2 tL := by
  refine ⟨by unfold NB; omega, by decide, by unfold NB; omega, by unfold NB; omega, by decide, by decide, by simp, fun k hk => ?_⟩
  simp only [List.mem_cons, List.not_mem_nil, or_false] at hk
  rcases hk with rfl | rfl
  ·exact ⟨by unfold NB; omega, by decide, by unfold NB; omega, by unfold NB; omega, by decide, by decide, by simp, by simp⟩
  ·exact ⟨by unfold NB; omega, by decide, by unfold NB; omega, by unfold NB; omega, by decide, by decide, by simp, by simp⟩
 have hm : manyF tL = 3 := by simp [tL, tA, tB, manyF_eq]
 have hf : faultF tL = 0 := by
  have h2 : deepF tL = 2 := by simp [tL, tA, tB, deepF_eq]; rfl
  have ha : partF tA = 0 := by rw [tA, partF_eq]; rfl
  have hb : partF tB = 0 := by rw [tB, partF_eq]; rfl
  have h3 : partF tL = 0 := by
   rw [tL, partF_eq, List.map_cons, List.map_cons, List.map_nil, ha, hb]; rfl
  rw [faultF, hm, h2, h3]; rfl
 have hps0 : ps0 tL = .mk 0 [0, 0] [.mk 0 [] [], .mk 0 [] []] := by simp [tL, tA, tB, ps0_eq]
 have hp1 : passesU 2 tL 1 = (.mk 1 [1, 0] [.mk 1 [] [], .mk 0 [] []], [(⟨#[97]⟩, 5)]) := by
  show ((passU 2 tL (ps0 tL)).1, [] ++ (passU 2 tL (ps0 tL)).2) = _
  rw [hps0]; rfl
 have hp2 : passesU 2 tL 2 = (.mk 2 [1, 1] [.mk 1 [] [], .mk 1 [] []], [(⟨#[97]⟩, 5), (⟨#[98]⟩, 7)]) := by
  show ((passU 2 tL (passesU 2 tL 1).1).1, (passesU 2 tL 1).2 ++ (passU 2 tL (passesU 2 tL 1).1).2) = _
  rw [hp1]; rfl
 have hri : RoundIs 2 tL 2 := ⟨by omega, by rw [hp2]; simp, by rw [hp2]; rfl, fun n h1 h2 => by
  have e : n = 1 := by omega
  rw [e, hp1]; rfl⟩
 obtain ⟨r1, r2, r3⟩ := roundS_some hri
 have hp := g_RoundG 2 tL h hLC.kc (by omega)
 rw [show rdN 2 tL = 2 by rw [rdN, if_pos hf, r3], show rdS 2 tL = [(⟨#[97]⟩, 5), (⟨#[98]⟩, 7)] by rw [rdS, if_pos hf, r1, hp2], show rdE 2 tL = 0 by rw [rdE, if_pos hf, r2]] at hp
 have hpX := hp.weakArgs (args' := [.agg (encX tL)]) rfl (fun j a b => by
  simp only [List.length_cons, List.length_nil, Nat.zero_add, Nat.lt_one_iff] at a
  subst a
  exact encX_weak 2 tL hLC)
 have he : encX tL = [.v (.int .i64 3), .v (.string ⟨#[]⟩), .v (.int .i64 0), .v (.int .i64 0), .row 6 [[.v (.int .i64 1), .v (.string ⟨#[97]⟩), .v (.int .i64 5), .v (.int .i64 0), .v (.slice none 0 0), .v (.slice none 0 0)], [.v (.int .i64 1), .v (.string ⟨#[98]⟩), .v (.int .i64 7), .v (.int .i64 0), .v (.slice none 0 0), .v (.slice none 0 0)]] none, .v (.slice none 0 0)] := by
  simp [tL, tA, tB, encX_eq, nilOr]
 rw [he] at hpX
 refine gE Tryz.func17 rfl (by kernel_rfl) 31 rfl fun c => ?_
 (repeat (first | refine gO rfl ?_ | (refine gM zM27 fun K1 hK1 => ?_; simp only [go_sem, ↓reduceIte, reduceCtorEq, nA, nB, nC, nD, nE, nF] <;> and_intros <;> first | (apply hK1; clear hK1 K1) | (intros; (decide)) | skip)))
 refine hpX.mono ?_
 rintro _ h2 rfl
 refine hK1 _ ?_; clear hK1 K1
 (repeat (first | refine gO rfl ?_ | (refine gM zM27 fun K1 hK1 => ?_; simp only [go_sem, ↓reduceIte, reduceCtorEq, nA, nB, nC, nD, nE, nF] <;> and_intros <;> (apply hK1; clear hK1 K1))))
 simp only [Tryz.results17, go_sem, ↓reduceIte, reduceCtorEq, nA, nB, nC, nD, nE, nF]
 exact ⟨_, _, Weak.refl _, Hp.le.refl _, rfl⟩
theorem g_cloneNil32 (h : Hp) : ACalls Tryz.prog 68 [.v (.slice none 0 0)] h (fun r h' => r = .v (.slice none 0 0) ∧ h' = h) := by
 refine gE Tryz.func68 rfl (by kernel_rfl) 7 rfl fun c => ?_
 (repeat (first | refine gO rfl ?_ | (refine gM zM24 fun K1 hK1 => ?_; simp only [go_sem, ↓reduceIte, reduceCtorEq, nA, nB, nC, nD, nE, nF] <;> and_intros <;> (apply hK1; clear hK1 K1))))
 refine awp_cond (t := _) rfl (fun _ => ?_) (fun h1 => by cases h1)
 (repeat (first | refine gO rfl ?_ | (refine gM zM24 fun K1 hK1 => ?_; simp only [go_sem, ↓reduceIte, reduceCtorEq, nA, nB, nC, nD, nE, nF] <;> and_intros <;> (apply hK1; clear hK1 K1))))
 simp only [Tryz.results68, go_sem, ↓reduceIte, reduceCtorEq, nA, nB, nC, nD, nE, nF]
 exact ⟨_, _, Weak.refl _, Hp.le.refl _, rfl, rfl⟩
theorem g_clone32 (x : List AV) (xs : List (List AV)) (k : Option Nat) (h : Hp) (hb : xs.length ≤ 1000) : ACalls Tryz.prog 68 [.row 1 (x :: xs) k] h (fun r h' => ∃ q, h.T q = none ∧ r = .row 1 (x :: xs) (some q) ∧ h' = { h with T := upd h.T q (some (.tail (xs.length + 1))) }) := by
 refine gE Tryz.func68 rfl (by kernel_rfl) 7 rfl fun c => ?_
 (repeat (first | refine gO rfl ?_ | (refine gM zM24 fun K1 hK1 => ?_; simp only [go_sem, ↓reduceIte, reduceCtorEq, nA, nB, nC, nD, nE, nF] <;> and_intros <;> (apply hK1; clear hK1 K1))))
 refine awp_cond (t := _) rfl (fun h1 => by cases h1) (fun _ => ?_)
 (repeat (first | refine gO rfl ?_ | (refine gM zM24 fun K1 hK1 => ?_; simp only [go_sem, ↓reduceIte, reduceCtorEq, nA, nB, nC, nD, nE, nF] <;> and_intros <;> first | (intros; (decide)) | skip)))
 intro q hq
 and_intros <;> first | (refine hK1 _ ?_; clear hK1 K1) | exact .inl trivial | exact .inr rfl | exact .inr True.intro | exact True.intro | omega
 (repeat ((refine gO rfl ?_)))
 simp only [Tryz.results68, go_sem, ↓reduceIte, reduceCtorEq, nA, nB, nC, nD, nE, nF]
 exact ⟨_, _, Weak.refl _, Hp.le.refl _, q, hq, rfl, rfl⟩
theorem g_cloneNil33 (h : Hp) : ACalls Tryz.prog 117 [.v (.slice none 0 0)] h (fun r h' => r = .v (.slice none 0 0) ∧ h' = h) := by
 refine gE Tryz.func117 rfl (by kernel_rfl) 7 rfl fun c => ?_
 (repeat (first | refine gO rfl ?_ | (refine gM zM28 fun K1 hK1 => ?_; simp only [go_sem, ↓reduceIte, reduceCtorEq, nA, nB, nC, nD, nE, nF] <;> and_intros <;> (apply hK1; clear hK1 K1))))
 refine awp_cond (t := _) rfl (fun _ => ?_) (fun h1 => by cases h1)
 (repeat (first | refine gO rfl ?_ | (refine gM zM28 fun K1 hK1 => ?_; simp only [go_sem, ↓reduceIte, reduceCtorEq, nA, nB, nC, nD, nE, nF] <;> and_intros <;> (apply hK1; clear hK1 K1))))
 simp only [Tryz.results117, go_sem, ↓reduceIte, reduceCtorEq, nA, nB, nC, nD, nE, nF]
 exact ⟨_, _, Weak.refl _, Hp.le.refl _, rfl, rfl⟩
theorem g_clone33 (x : List AV) (xs : List (List AV)) (k : Option Nat) (h : Hp) (hb : xs.length ≤ 1000) : ACalls Tryz.prog 117 [.row 6 (x :: xs) k] h (fun r h' => ∃ q, h.T q = none ∧ r = .arr 6 q (xs.length + 1) ∧ h' = { h with T := upd h.T q (some (.cont 6 (x :: xs))) }) := by
 refine gE Tryz.func117 rfl (by kernel_rfl) 7 rfl fun c => ?_
 (repeat (first | refine gO rfl ?_ | (refine gM zM28 fun K1 hK1 => ?_; simp only [go_sem, ↓reduceIte, reduceCtorEq, nA, nB, nC, nD, nE, nF] <;> and_intros <;> (apply hK1; clear hK1 K1))))
 refine awp_cond (t := _) rfl (fun h1 => by cases h1) (fun _ => ?_)
 (repeat (first | refine gO rfl ?_ | (refine gM zM28 fun K1 hK1 => ?_; simp only [go_sem, ↓reduceIte, reduceCtorEq, nA, nB, nC, nD, nE, nF] <;> and_intros <;> first | (intros; (decide)) | skip)))
 intro q hq
 and_intros <;> first | (refine hK1 _ ?_; clear hK1 K1) | exact .inl trivial | exact .inr rfl | exact .inr True.intro | exact True.intro | omega
 (repeat ((refine gO rfl ?_)))
 simp only [Tryz.results117, go_sem, ↓reduceIte, reduceCtorEq, nA, nB, nC, nD, nE, nF]
 exact ⟨_, _, Weak.refl _, Hp.le.refl _, q, hq, rfl, rfl⟩
theorem g_cloneS (xs : List Int) (h : Hp) (hb : xs.length ≤ 1000) : ACalls Tryz.prog 68 [nilOr 1 (xs.map encI)] h (fun r h' => ∃ T', (∀ k, h.T k ≠ none → T' k = h.T k) ∧ h' = ⟨h.H, T'⟩ ∧
  (r = .v (.slice none 0 0) ∨ ∃ k, h.T k = none ∧ r = .row 1 (xs.map encI) (some k) ∧ T' k = some (.tail xs.length))) := by
 cases xs with
 | nil => exact (g_cloneNil32 h).mono fun r h' ⟨e, e'⟩ => ⟨h.T, fun _ _ => rfl, e', .inl e⟩
 | cons x xs =>
  refine (g_clone32 (encI x) (xs.map encI) none h (by simp at hb ⊢; omega)).mono ?_
  rintro r h' ⟨q, hq, rfl, rfl⟩
  exact ⟨_, fun k hk => upd_other _ _ (fun e => hk (e ▸ hq)), rfl, .inr ⟨q, hq, rfl, by rw [upd_same]; simp⟩⟩
theorem g_cloneK (ts : List LT) (h : Hp) (hb : ts.length ≤ 1000) : ACalls Tryz.prog 117 [nilOr 6 (ts.map encX)] h (fun r h' => ts = [] ∧ r = .v (.slice none 0 0) ∧ h' = h ∨ ∃ q, ts ≠ [] ∧ h.T q = none ∧ r = .arr 6 q ts.length ∧ h' = { h with T := upd h.T q (some (.cont 6 (ts.map encX))) }) := by
 cases ts with
 | nil => exact (g_cloneNil33 h).mono fun r h' ⟨e, e'⟩ => .inl ⟨rfl, e, e'⟩
 | cons x xs =>
  refine (g_clone33 (encX x) (xs.map encX) none h (by simp at hb ⊢; omega)).mono ?_
  rintro r h' ⟨q, hq, rfl, rfl⟩
  exact .inr ⟨q, by simp, hq, by simp, rfl⟩
abbrev zPOE : List Nat := [0, 1, 2, 3, 4, 5, 6, 7]
abbrev zPOP : List (Nat × List Nat × List Nat) := [(8, [1], [9]), (10, [], [])]
attribute [go_sem] zPOE zPOP
def CopI (d : Nat) (kind : Int) (item : ByteArray) (long many : Int) (kids : List LT) (shares : List Int) (r : AV) (q : Nat) (h : Hp) (g : Nat) (s : St) : Prop :=
 ∃ (j : Nat) (T2 : Nat → Option TO) (css : List (List AV)), g + j = kids.length ∧ css.length = kids.length ∧ T2 q = some (.cont 6 css) ∧ (∀ i, i < j → OLd true T2 (fun k => h.T k = none ∧ k ≠ q) d (css.getD i [])) ∧ (∀ i, j ≤ i → i < kids.length → css.getD i [] = encX (kids.getD i default)) ∧
  (∀ k, h.T k ≠ none → T2 k = h.T k) ∧ (r = .v (.slice none 0 0) ∨ ∃ k, h.T k = none ∧ r = .row 1 (shares.map encI) (some k) ∧ T2 k = some (.tail shares.length)) ∧
  s = ⟨(AV.junk :: ((.loc 0 0) :: (.loc 1 0) :: (jnk 11 ((.v (.int .i64 kids.length)) :: (.v (.int .i64 j)) :: (jnk 14 []))))),
   [[.v (.int .i64 kind), .v (.string item), .v (.int .i64 long), .v (.int .i64 many), .arr 6 q kids.length, r], [.v (.int .i64 0), .v (.string { data := #[] }), .v (.int .i64 0), .v (.int .i64 0), .v (.slice none 0 0), .v (.slice none 0 0)]], ⟨h.H, T2⟩⟩
theorem g_copied : ∀ (d : Nat) (t : LT) (h : Hp), LB d t → ACalls Tryz.prog 62 [.agg (encX t)] h (fun r h' => ∃ cs T', OLd true T' (fun k => h.T k = none) d cs ∧ (∀ k, h.T k ≠ none → T' k = h.T k) ∧ r = .agg cs ∧ h' = ⟨h.H, T'⟩)
 | 0, _, _, hb => hb.elim
 | d + 1, .mk kind item long many kids shares, h, hb => by
  obtain ⟨b1, b2, b3, b4, b5, b6, b7, b8⟩ := hb
  rw [encX_eq]
  have o1 := nilOr_one 1 (shares.map encI)
  have o2 := nilOr_one 6 (kids.map encX)
  obtain ⟨u1, u2, u3, u4, u5⟩ := o1
  unfold uside at u1; unfold unw at u2; unfold AV.noLoc at u3; unfold isOpt at u4; simp only [AV.cellsB, Value.oneCell'] at u5
  obtain ⟨v1, v2, v3, v4, v5⟩ := o2
  unfold uside at v1; unfold unw at v2; unfold AV.noLoc at v3; unfold isOpt at v4; simp only [AV.cellsB, Value.oneCell'] at v5
  refine gE Tryz.func62 rfl (by kernel_rfl) 29 rfl fun c => ?_
  (repeat (first | refine gO rfl ?_ | ((refine gM zM29 fun K1 hK1 => ?_; simp only [go_sem, ↓reduceIte, reduceCtorEq, nA, nB, nC, nD, nE, nF, u1, u2, u3, u4, u5, v1, v2, v3, v4, v5] <;> and_intros <;> first | (apply hK1; clear hK1 K1) | skip))))
  refine (g_cloneS shares _ (by omega)).mono ?_
  rintro r _ ⟨T1, hT1, rfl, hS⟩
  have o3 : OneV r := by rcases hS with rfl | ⟨k, _, rfl, _⟩ <;> exact ⟨rfl, rfl, rfl, rfl, rfl⟩
  obtain ⟨w1, w2, w3, w4, w5⟩ := o3
  unfold uside at w1; unfold unw at w2; unfold AV.noLoc at w3; unfold isOpt at w4; simp only [AV.cellsB, Value.oneCell'] at w5
  refine hK1 _ ?_; clear hK1 K1
  (repeat (first | refine gO rfl ?_ | ((refine gM zM29 fun K1 hK1 => ?_; simp only [go_sem, ↓reduceIte, reduceCtorEq, nA, nB, nC, nD, nE, nF, u1, u2, u3, u4, u5, v1, v2, v3, v4, v5, w1, w2, w3, w4, w5] <;> and_intros <;> first | (apply hK1; clear hK1 K1) | skip))))
  refine (g_cloneK kids _ (by omega)).mono ?_
  rintro r2 _ (⟨hk0, rfl, rfl⟩ | ⟨q, hq0, hq, rfl, rfl⟩)
  ·refine hK1 _ ?_; clear hK1 K1
   (repeat (first | refine gO rfl ?_ | ((refine gM zM29 fun K1 hK1 => ?_; simp only [go_sem, ↓reduceIte, reduceCtorEq, nA, nB, nC, nD, nE, nF, u1, u2, u3, u4, u5, v1, v2, v3, v4, v5, w1, w2, w3, w4, w5] <;> and_intros <;> (apply hK1; clear hK1 K1)))))
   refine awp_loopC (rl false [1, 2, 11, 2, 14]) 2 (fun g s => s = ⟨(AV.junk :: ((.loc 0 0) :: (.loc 1 0) :: (jnk 11 ((.v (.int .i64 0)) :: (.v (.int .i64 0)) :: (jnk 14 []))))),
    [[.v (.int .i64 kind), .v (.string item), .v (.int .i64 long), .v (.int .i64 many), .v (.slice none 0 0), r], [.v (.int .i64 0), .v (.string { data := #[] }), .v (.int .i64 0), .v (.int .i64 0), .v (.slice none 0 0), .v (.slice none 0 0)]], ⟨h.H, T1⟩⟩) 0 rfl ?_
   rintro n _ rfl
   (repeat (first | refine gO rfl ?_ | ((refine gM zM29 fun K1 hK1 => ?_; simp only [go_sem, ↓reduceIte, reduceCtorEq, nA, nB, nC, nD, nE, nF, u1, u2, u3, u4, u5, v1, v2, v3, v4, v5, w1, w2, w3, w4, w5] <;> and_intros <;> (apply hK1; clear hK1 K1)))))
   refine awp_cond (t := _) rfl (fun h1 => by cases h1) (fun _ => ?_)
   (repeat (first | refine gO rfl ?_ | ((refine gM zM29 fun K1 hK1 => ?_; simp only [go_sem, ↓reduceIte, reduceCtorEq, nA, nB, nC, nD, nE, nF, u1, u2, u3, u4, u5, v1, v2, v3, v4, v5, w1, w2, w3, w4, w5] <;> and_intros <;> (apply hK1; clear hK1 K1)))))
   simp only [Tryz.results62, go_sem, ↓reduceIte, reduceCtorEq, nA, nB, nC, nD, nE, nF, u1, u2, u3, u4, u5, v1, v2, v3, v4, v5, w1, w2, w3, w4, w5]
   refine ⟨_, _, Weak.refl _, Hp.le.refl _, _, T1, ⟨kind, item, long, many, .v (.slice none 0 0), r, rfl, ⟨b1, b2, b3, b4⟩, .inl rfl, ?_⟩, hT1, rfl, rfl⟩
   rcases hS with e | ⟨k, hk, e, hk2⟩
   ·exact .inl e
   ·exact .inr ⟨shares, k, e, by omega, b7, fun _ => ⟨hk, hk2, b6⟩⟩
  ·refine hK1 _ ?_; clear hK1 K1
   have hq : T1 q = none := hq
   (repeat (first | refine gO rfl ?_ | ((refine gM zM29 fun K1 hK1 => ?_; simp only [go_sem, ↓reduceIte, reduceCtorEq, nA, nB, nC, nD, nE, nF, u1, u2, u3, u4, u5, v1, v2, v3, v4, v5, w1, w2, w3, w4, w5] <;> and_intros <;> (apply hK1; clear hK1 K1)))))
   refine awp_loopC (rl false [1, 2, 11, 2, 14]) 2 (fun g s => CopI d kind item long many kids shares r q h g s) kids.length ⟨0, upd T1 q (some (.cont 6 (kids.map encX))), kids.map encX, by omega, by simp, upd_same _ _ _, fun i hi => by omega, fun i _ hi => getD_encX hi, fun k hk => ?_, ?_, rfl⟩ ?_
   ·have hkq : k ≠ q := fun e => by subst e; rw [hT1 k hk] at hq; exact hk hq
    rw [upd_other _ _ hkq]; exact hT1 k hk
   ·rcases hS with e | ⟨k, hk, e, hk2⟩
    ·exact .inl e
    ·have hkq : k ≠ q := fun e => by subst e; rw [hk2] at hq; cases hq
     exact .inr ⟨k, hk, e, by rw [upd_other _ _ hkq]; exact hk2⟩
   have hq' : h.T q = none := by
    cases e : h.T q with
    | none => rfl
    | some x => have := hT1 q (by rw [e]; simp); rw [hq, e] at this; cases this
   rintro n _ ⟨j, T2, css, hnj, hcl, hTq, hdone, hrest, hTT, hS2, rfl⟩
   (repeat (first | refine gO rfl ?_ | ((refine gM zM29 fun K1 hK1 => ?_; simp only [go_sem, ↓reduceIte, reduceCtorEq, nA, nB, nC, nD, nE, nF, u1, u2, u3, u4, u5, v1, v2, v3, v4, v5, w1, w2, w3, w4, w5] <;> and_intros <;> (apply hK1; clear hK1 K1)))))
   refine awp_cond (t := _) rfl (fun h1 => ?_) (fun h1 => ?_)
   ·simp only [decide_eq_true_eq] at h1
    have hj : j < kids.length := by omega
    have hg := hrest j (Nat.le_refl _) hj
    have hm : kids.getD j default ∈ kids := by
     rw [List.getD_eq_getElem?_getD, List.getElem?_eq_getElem hj]; exact List.getElem_mem _
    generalize kids.getD j default = t2 at hg hm
    have hlen := encX_len t2
    have htk : List.take 6 (encX t2) = encX t2 := List.take_of_length_le (Nat.le_of_eq hlen)
    (repeat (first | refine gO rfl ?_ | ((first | refine gM zM29 ?_ | ((with_reducible refine xR ?_); refine uE 6 zM29 zPOE zPOP 30 rfl (by kernel_rfl) ?_)) <;> ((try with_reducible intro K1 hK1); simp only [go_sem, ↓reduceIte, reduceCtorEq, nA, nB, nC, nD, nE, nF, u1, u2, u3, u4, u5, v1, v2, v3, v4, v5, w1, w2, w3, w4, w5, hTq, hcl, Int.toNat_natCast, hg, hlen, htk] <;> and_intros <;> first | (apply hK1; clear hK1 K1) | (intros; (omega)) | skip))))
    refine (g_copied d t2 ⟨h.H, T2⟩ (b8 t2 hm)).mono ?_
    rintro _ _ ⟨cs, T3, hcs, hT3, rfl, rfl⟩
    refine hK1 _ ?_; clear hK1 K1
    replace hcs : OLd true T3 (fun k => T2 k = none) d cs := hcs
    replace hT3 : ∀ k, T2 k ≠ none → T3 k = T2 k := hT3
    have hT3q : T3 q = some (.cont 6 css) := by rw [hT3 q (by rw [hTq]; simp)]; exact hTq
    have hcsl := hcs.len
    have hdr : List.drop 6 (encX t2) = [] := List.drop_of_length_le (Nat.le_of_eq hlen)
    (repeat (first | refine gO rfl ?_ | ((first | refine gM zM29 ?_ | (with_reducible refine wM ?_ ?_)) <;> ((try with_reducible intro K1 hK1); simp only [go_sem, ↓reduceIte, reduceCtorEq, nA, nB, nC, nD, nE, nF, u1, u2, u3, u4, u5, v1, v2, v3, v4, v5, w1, w2, w3, w4, w5, hT3q, hcl, Int.toNat_natCast, hg, hlen, htk, hdr, hcsl] <;> and_intros <;> first | (apply hK1; clear hK1 K1) | (intros; first | omega | (simp_all <;> omega))))))
    refine ⟨n - 1, by omega, j + 1, upd T3 q (some (.cont 6 (css.set j cs))), css.set j cs, by omega, by simpa using hcl, upd_same _ _ _, fun i hi => ?_, fun i hi hi2 => ?_, fun k hk => ?_, ?_, ?_⟩
    ·have hkeep : ∀ k, T2 k ≠ none → k ≠ q → upd T3 q (some (.cont 6 (css.set j cs))) k = T2 k := fun k hk hkq => by rw [upd_other _ _ hkq]; exact hT3 k hk
     by_cases hij : i = j
     ·subst hij
      rw [List.getD_eq_getElem?_getD, List.getElem?_set_self (by omega)]
      refine (hcs.keep (T' := upd T3 q (some (.cont 6 (css.set i cs)))) (fun k hk _ => upd_other _ _ fun e => by subst e; rw [hTq] at hk; cases hk) (fun _ k m hk => by
       by_cases hkq : k = q
       ·subst hkq; rw [hT3q] at hk; cases hk
       ·rw [upd_other _ _ hkq]; exact hk)).more fun k hk => ⟨?_, fun e => by subst e; rw [hTq] at hk; cases hk⟩
      cases e : h.T k with
      | none => rfl
      | some x => have := hTT k (by rw [e]; simp); rw [hk, e] at this; cases this
     ·rw [List.getD_eq_getElem?_getD, List.getElem?_set_ne (by omega), ← List.getD_eq_getElem?_getD]
      refine (hdone i (by omega)).keep (fun k hk ⟨x, hk2⟩ => hkeep k (by rw [hk2]; simp) hk.2) (fun _ k m hk => ?_)
      by_cases hkq : k = q
      ·subst hkq; rw [hTq] at hk; cases hk
      ·rw [hkeep k (by rw [hk]; simp) hkq]; exact hk
    ·rw [List.getD_eq_getElem?_getD, List.getElem?_set_ne (by omega), ← List.getD_eq_getElem?_getD]
     exact hrest i (by omega) hi2
    ·have hkq : k ≠ q := fun e => by subst e; exact hk hq'
     rw [upd_other _ _ hkq, hT3 k (by rw [hTT k hk]; exact hk)]; exact hTT k hk
    ·rcases hS2 with e | ⟨k, hk, e, hk2⟩
     ·exact .inl e
     ·have hkq : k ≠ q := fun e => by subst e; rw [hk2] at hTq; cases hTq
      exact .inr ⟨k, hk, e, by rw [upd_other _ _ hkq, hT3 k (by rw [hk2]; simp)]; exact hk2⟩
    ·rfl
   ·(repeat (first | refine gO rfl ?_ | ((refine gM zM29 fun K1 hK1 => ?_; simp only [go_sem, ↓reduceIte, reduceCtorEq, nA, nB, nC, nD, nE, nF, u1, u2, u3, u4, u5, v1, v2, v3, v4, v5, w1, w2, w3, w4, w5] <;> and_intros <;> (apply hK1; clear hK1 K1)))))
    simp only [Tryz.results62, go_sem, ↓reduceIte, reduceCtorEq, nA, nB, nC, nD, nE, nF, u1, u2, u3, u4, u5, v1, v2, v3, v4, v5, w1, w2, w3, w4, w5]
    simp only [decide_eq_false_iff_not] at h1
    have hj : j = kids.length := by omega
    subst hj
    refine ⟨_, _, Weak.refl _, Hp.le.refl _, _, T2, ⟨kind, item, long, many, .arr 6 q kids.length, r, rfl, ⟨b1, b2, b3, b4⟩, .inr (.inl ⟨q, css, hq', hTq, by rw [hcl], by rw [hcl]; exact List.length_pos_iff.2 hq0, by omega, fun c hc => ?_⟩), ?_⟩, hTT, rfl, rfl⟩
    ·obtain ⟨i, hi, rfl⟩ := List.getElem_of_mem hc
     have := hdone i (by omega)
     rw [List.getD_eq_getElem?_getD, List.getElem?_eq_getElem hi] at this
     exact this.more fun k hk => hk.1
    ·rcases hS2 with e | ⟨k, hk, e, hk2⟩
     ·exact .inl e
     ·exact .inr ⟨shares, k, e, by omega, b7, fun _ => ⟨hk, hk2, b6⟩⟩
abbrev zPPE : List Nat := [0, 1, 2, 3, 4, 5, 6, 7, 8, 9]
abbrev zPPP : List (Nat × List Nat × List Nat) := [(10, [3], [11]), (12, [], [])]
attribute [go_sem] zPPE zPPP
def PtIn (o : Nat) (T : Nat → Option TO) (S : Nat → Prop) (cs0 : List AV) (p : AV) (cs : List AV) : Prop :=
 p = .ptr o 0 ∧ cs = cs0 ∨ ∃ q css j, S q ∧ T q = some (.cont 6 css) ∧ j < css.length ∧ p = .eptr q css.length j 0 ∧ css.getD j [] = cs
def InnI (i o : Nat) (l : List Int) (a : Int) (h : Hp) (S : Nat → Prop) (d : Nat) (cs0 : List AV) (g : Nat) (s : St) : Prop :=
 ∃ p cs a', PtIn o h.T S cs0 p cs ∧ OLd true h.T S g cs ∧ (a ≤ a' ∧ a' + 2 * g ≤ a + 2 * d) ∧ s = ⟨((.ptr i 0) :: (p) :: (jnk 27 [])), [], h.st i l a'⟩
theorem g_inner (i o : Nat) (l : List Int) (a : Int) (h : Hp) (hl : SOk l) (S : Nat → Prop) (d : Nat) (cs0 : List AV) (ha : 0 ≤ a ∧ a + 2 * d ≤ 900000000) (hio : o ≠ i) (hH0 : h.H o = some (.cells cs0)) (hO : OLd true h.T S d cs0) :
  ACalls Tryz.prog 64 [.ptr i 0, .ptr o 0] (h.st i l a) (fun r h' => ∃ cs e a', (a ≤ a' ∧ a' ≤ a + 2 * d) ∧ PtIn o h.T S cs0 r cs ∧ OLd true h.T S e cs ∧ h' = h.st i l a') := by
 refine gE Tryz.func64 rfl (by kernel_rfl) 27 rfl fun c => ?_
 (repeat (first | refine gO rfl ?_ | ((refine gR fun K1 hK1 => ?_; simp only [go_sem, ↓reduceIte, reduceCtorEq, nA, nB, nC, nD, nE, nF] <;> and_intros <;> (apply hK1; clear hK1 K1)))))
 refine awp_loopC (rl false [0, 2, 27]) 0 (fun g s => InnI i o l a h S d cs0 g s) d ⟨.ptr o 0, cs0, a, .inl ⟨rfl, rfl⟩, hO, by omega, rfl⟩ ?_
 rintro g _ ⟨p, cs, a', hp, hcs, ha', rfl⟩
 cases g with
 | zero => exact hcs.elim
 | succ g =>
 obtain ⟨kind, item, long, many, K, Sh, rfl, hnb, hK, hS⟩ := id hcs
 have hH1 : ∀ b, cs0 = [.v (.int .i64 kind), .v (.string item), .v (.int .i64 long), .v (.int .i64 many), K, Sh] → (h.st i l b).H o = some (.cells [.v (.int .i64 kind), .v (.string item), .v (.int .i64 long), .v (.int .i64 many), K, Sh]) := fun b e => by
  rw [← e]; simp only [Hp.st, upd_other _ _ hio]; exact hH0
 have hK' : K = .v (.slice none 0 0) ∨ ∃ q css, S q ∧ h.T q = some (.cont 6 css) ∧ K = .arr 6 q css.length ∧ 0 < css.length ∧ css.length ≤ 3 ∧ ∀ c ∈ css, OLd true h.T S g c := by
  rcases hK with e | e | ⟨e, _⟩
  ·exact .inl e
  ·exact .inr e
  ·cases e
 rcases hK' with rfl | ⟨q, css, hq, hTq, rfl, hpos, hcl, hcc⟩
 ·rcases id hp with ⟨rfl, e⟩ | ⟨q0, css0, j0, hq0, hT0, hj0, rfl, hg0⟩
  ·have hH := fun b => hH1 b e.symm
   (repeat (first | refine gO rfl ?_ | ((refine gR fun K1 hK1 => ?_; simp only [go_sem, ↓reduceIte, reduceCtorEq, nA, nB, nC, nD, nE, nF, hH, st_T, Int.toNat_natCast] <;> and_intros <;> first | (intros; (simp_all <;> omega)) | skip))))
   intro h1
   refine hK1 _ ?_; clear hK1 K1
   (repeat (((refine gR fun K1 hK1 => ?_; simp only [go_sem, ↓reduceIte, reduceCtorEq, nA, nB, nC, nD, nE, nF, hH, h1, st_T, Int.toNat_natCast] <;> and_intros))))
   refine ⟨.junk, rfl, hK1 _ ?_⟩; clear hK1 K1
   (repeat ((refine gO rfl ?_)))
   refine awp_cond (t := _) rfl (fun h2 => by cases h2) (fun h2 => ?_)
   (repeat (first | refine gO rfl ?_ | ((refine gR fun K1 hK1 => ?_; simp only [go_sem, ↓reduceIte, reduceCtorEq, nA, nB, nC, nD, nE, nF, hH, st_T, Int.toNat_natCast] <;> and_intros <;> (apply hK1; clear hK1 K1)))))
   simp only [Tryz.results64, go_sem, ↓reduceIte, reduceCtorEq, nA, nB, nC, nD, nE, nF]
   exact ⟨_, _, Weak.refl _, Hp.le.refl _, _, _, a', by omega, hp, hcs, rfl⟩
  ·have hj0' : (j0 : Nat) < css0.length := hj0
   (repeat (first | refine gO rfl ?_ | ((refine gR fun K1 hK1 => ?_; simp only [go_sem, ↓reduceIte, reduceCtorEq, nA, nB, nC, nD, nE, nF, hT0, hg0, st_T, Int.toNat_natCast] <;> and_intros <;> first | (intros; (simp_all <;> omega)) | skip))))
   intro h1
   refine hK1 _ ?_; clear hK1 K1
   (repeat (((refine gR fun K1 hK1 => ?_; simp only [go_sem, ↓reduceIte, reduceCtorEq, nA, nB, nC, nD, nE, nF, hT0, hg0, h1, st_T, Int.toNat_natCast] <;> and_intros))))
   refine ⟨.junk, rfl, hK1 _ ?_⟩; clear hK1 K1
   (repeat ((refine gO rfl ?_)))
   refine awp_cond (t := _) rfl (fun h2 => by cases h2) (fun h2 => ?_)
   (repeat (first | refine gO rfl ?_ | ((refine gR fun K1 hK1 => ?_; simp only [go_sem, ↓reduceIte, reduceCtorEq, nA, nB, nC, nD, nE, nF, hT0, hg0, st_T, Int.toNat_natCast] <;> and_intros <;> (apply hK1; clear hK1 K1)))))
   simp only [Tryz.results64, go_sem, ↓reduceIte, reduceCtorEq, nA, nB, nC, nD, nE, nF]
   exact ⟨_, _, Weak.refl _, Hp.le.refl _, _, _, a', by omega, hp, hcs, rfl⟩
 ·rcases id hp with ⟨rfl, e⟩ | ⟨q0, css0, j0, hq0, hT0, hj0, rfl, hg0⟩
  ·have hH := fun b => hH1 b e.symm
   (repeat (first | refine gO rfl ?_ | ((refine gR fun K1 hK1 => ?_; simp only [go_sem, ↓reduceIte, reduceCtorEq, nA, nB, nC, nD, nE, nF, hH, st_T, Int.toNat_natCast] <;> and_intros <;> first | (intros; (simp_all <;> omega)) | skip))))
   intro h1
   refine ⟨h1, ?_⟩
   refine (g_flip i l a' 3 h hl (by omega) (by omega)).mono ?_
   rintro _ _ ⟨b, rfl, rfl⟩
   refine ⟨rfl, hK1 _ ?_⟩; clear hK1 K1
   (repeat (first | refine gO rfl ?_ | ((refine gR fun K1 hK1 => ?_; simp only [go_sem, ↓reduceIte, reduceCtorEq, nA, nB, nC, nD, nE, nF, hH, h1, st_T, Int.toNat_natCast] <;> and_intros <;> (apply hK1; clear hK1 K1)))))
   refine awp_cond (t := _) rfl (fun h2 => ?_) (fun h2 => ?_)
   ·(repeat (first | refine gO rfl ?_ | ((first | refine gR ?_ | ((with_reducible refine xR ?_); refine uE 2 zM20 zPPE zPPP 29 rfl (by kernel_rfl) ?_)) <;> ((try with_reducible intro K1 hK1); simp only [go_sem, ↓reduceIte, reduceCtorEq, nA, nB, nC, nD, nE, nF, hH, st_T, Int.toNat_natCast] <;> and_intros <;> first | (apply hK1; clear hK1 K1) | skip))))
    refine (g_next i l (a' + 1) css.length h hl (by omega) (by omega)).mono ?_; rintro _ _ ⟨x, hx, rfl, rfl⟩; apply hK1; clear hK1 K1
    (repeat (first | refine gO rfl ?_ | ((first | refine gR ?_ | (with_reducible refine wM ?_ ?_)) <;> ((try with_reducible intro K1 hK1); simp only [go_sem, ↓reduceIte, reduceCtorEq, nA, nB, nC, nD, nE, nF, hH, st_T, Int.toNat_natCast] <;> and_intros <;> first | (apply hK1; clear hK1 K1) | (intros; first | omega | decide | (simp_all <;> omega))))))
    have hxl : x.toNat < css.length := by omega
    refine ⟨g, by omega, .eptr q css.length x.toNat 0, css.getD x.toNat [], a' + 1 + 1, .inr ⟨q, css, x.toNat, hq, hTq, hxl, rfl, rfl⟩, hcc _ (by rw [List.getD_eq_getElem?_getD, List.getElem?_eq_getElem hxl]; exact List.getElem_mem _), by omega, rfl⟩
   ·(repeat (first | refine gO rfl ?_ | ((refine gR fun K1 hK1 => ?_; simp only [go_sem, ↓reduceIte, reduceCtorEq, nA, nB, nC, nD, nE, nF, hH, st_T, Int.toNat_natCast] <;> and_intros <;> (apply hK1; clear hK1 K1)))))
    simp only [Tryz.results64, go_sem, ↓reduceIte, reduceCtorEq, nA, nB, nC, nD, nE, nF]
    exact ⟨_, _, Weak.refl _, Hp.le.refl _, _, _, a' + 1, by omega, hp, hcs, rfl⟩
  ·--
   (repeat (first | refine gO rfl ?_ | ((refine gR fun K1 hK1 => ?_; simp only [go_sem, ↓reduceIte, reduceCtorEq, nA, nB, nC, nD, nE, nF, hT0, hg0, st_T, Int.toNat_natCast] <;> and_intros <;> first | (intros; (simp_all <;> omega)) | skip))))
   intro h1
   refine ⟨h1, ?_⟩
   refine (g_flip i l a' 3 h hl (by omega) (by omega)).mono ?_
   rintro _ _ ⟨b, rfl, rfl⟩
   refine ⟨rfl, hK1 _ ?_⟩; clear hK1 K1
   (repeat (first | refine gO rfl ?_ | ((refine gR fun K1 hK1 => ?_; simp only [go_sem, ↓reduceIte, reduceCtorEq, nA, nB, nC, nD, nE, nF, hT0, hg0, h1, st_T, Int.toNat_natCast] <;> and_intros <;> (apply hK1; clear hK1 K1)))))
   refine awp_cond (t := _) rfl (fun h2 => ?_) (fun h2 => ?_)
   ·(repeat (first | refine gO rfl ?_ | ((first | refine gR ?_ | ((with_reducible refine xR ?_); refine uE 2 zM20 zPPE zPPP 29 rfl (by kernel_rfl) ?_)) <;> ((try with_reducible intro K1 hK1); simp only [go_sem, ↓reduceIte, reduceCtorEq, nA, nB, nC, nD, nE, nF, hT0, hg0, st_T, Int.toNat_natCast] <;> and_intros <;> first | (apply hK1; clear hK1 K1) | skip))))
    refine (g_next i l (a' + 1) css.length h hl (by omega) (by omega)).mono ?_; rintro _ _ ⟨x, hx, rfl, rfl⟩; apply hK1; clear hK1 K1
    (repeat (first | refine gO rfl ?_ | ((first | refine gR ?_ | (with_reducible refine wM ?_ ?_)) <;> ((try with_reducible intro K1 hK1); simp only [go_sem, ↓reduceIte, reduceCtorEq, nA, nB, nC, nD, nE, nF, hT0, hg0, st_T, Int.toNat_natCast] <;> and_intros <;> first | (apply hK1; clear hK1 K1) | (intros; first | omega | decide | (simp_all <;> omega))))))
    have hxl : x.toNat < css.length := by omega
    refine ⟨g, by omega, .eptr q css.length x.toNat 0, css.getD x.toNat [], a' + 1 + 1, .inr ⟨q, css, x.toNat, hq, hTq, hxl, rfl, rfl⟩, hcc _ (by rw [List.getD_eq_getElem?_getD, List.getElem?_eq_getElem hxl]; exact List.getElem_mem _), by omega, rfl⟩
   ·(repeat (first | refine gO rfl ?_ | ((refine gR fun K1 hK1 => ?_; simp only [go_sem, ↓reduceIte, reduceCtorEq, nA, nB, nC, nD, nE, nF, hT0, hg0, st_T, Int.toNat_natCast] <;> and_intros <;> (apply hK1; clear hK1 K1)))))
    simp only [Tryz.results64, go_sem, ↓reduceIte, reduceCtorEq, nA, nB, nC, nD, nE, nF]
    exact ⟨_, _, Weak.refl _, Hp.le.refl _, _, _, a' + 1, by omega, hp, hcs, rfl⟩
abbrev zPQE : List Nat := [0, 1, 3, 4]
abbrev zPQP : List (Nat × List Nat × List Nat) := [(2, [3], []), (5, [], [6]), (7, [], [])]
abbrev zPRE : List Nat := [0, 1, 2, 3]
abbrev zPRP : List (Nat × List Nat × List Nat) := [(4, [0], [5]), (6, [], []), (8, [], [])]
abbrev zPSE : List Nat := [0, 1, 2, 3]
abbrev zPSP : List (Nat × List Nat × List Nat) := [(4, [1], [5]), (6, [], [7]), (8, [], [])]
attribute [go_sem] zPQE zPQP zPRE zPRP zPSE zPSP
theorem g_item (i : Nat) (l : List Int) (a : Int) (h : Hp) (hl : SOk l) (ha : 0 ≤ a ∧ a ≤ 900000000) :
  ACalls Tryz.prog 118 [.ref [.ptr i 0] 0] (h.st i l a) (fun r h' => ∃ t, LB 1 t ∧ r = .agg (encX t) ∧ h' = h.st i l (a + 2)) := by
 refine gE Tryz.func118 rfl (by kernel_rfl) 8 rfl fun c => ?_
 (repeat (first | refine gO rfl ?_ | ((first | refine gM zM27 ?_ | ((with_reducible refine xS ?_); refine uD 1 zM27 zPQE zPQP 9 rfl (by kernel_rfl) ?_)) <;> ((try with_reducible intro K1 hK1); simp only [go_sem, ↓reduceIte, reduceCtorEq, nA, nB, nC, nD, nE, nF] <;> and_intros <;> first | (apply hK1; clear hK1 K1) | (intros; (decide)) | skip))))
 refine (g_some i l a [⟨#[105, 97]⟩, ⟨#[105, 97]⟩, ⟨#[105, 98]⟩, ⟨#[105, 99]⟩, ⟨#[110, 97]⟩] none h hl (by omega) (by simp)).mono ?_; rintro _ _ ⟨x, hx, rfl, rfl⟩; apply hK1; clear hK1 K1
 (repeat (((first | refine gM zM27 ?_ | (with_reducible refine wM ?_ ?_)) <;> ((try with_reducible intro K1 hK1); simp only [go_sem, ↓reduceIte, reduceCtorEq, nA, nB, nC, nD, nE, nF] <;> and_intros <;> first | (apply hK1; clear hK1 K1) | (intros; (simp_all <;> omega)) | skip))))
 refine (g_pick i l (a + 1) [1000, 2000, 5000] none h hl (by omega) (by simp)).mono ?_; rintro _ _ ⟨y, hy, rfl, rfl⟩; apply hK1; clear hK1 K1
 (repeat (first | refine gO rfl ?_ | ((first | refine gM zM27 ?_ | (with_reducible refine wM ?_ ?_)) <;> ((try with_reducible intro K1 hK1); simp only [go_sem, ↓reduceIte, reduceCtorEq, nA, nB, nC, nD, nE, nF] <;> and_intros <;> (apply hK1; clear hK1 K1)))))
 simp only [Tryz.results118, go_sem, ↓reduceIte, reduceCtorEq, nA, nB, nC, nD, nE, nF]
 refine ⟨_, _, Weak.refl _, Hp.le.refl _, .mk 1 x y 0 [] [], ?_, by rw [encX_eq]; rfl, by rw [show a + 1 + 1 = a + 2 by omega]⟩
 simp at hx hy
 refine ⟨by unfold NB; omega, ?_, by unfold NB; omega, by unfold NB; omega, by simp, by simp, by simp, by simp⟩
 rcases hx with rfl | rfl | rfl | rfl <;> decide
def costR : Nat → Int
 | 0 => 20
 | n + 1 => 20 + 3 * (costR n + 10)
def RightI (d : Nat) (deep : Int) (i : Nat) (l : List Int) (h : Hp) (kd mn many a' : Int) (k1 : Nat) (g : Nat) (s : St) : Prop :=
 ∃ (kids : List LT) (shares : List Int) (S : AV) (T2 : Nat → Option TO) (a2 : Int), (g : Int) + kids.length = many ∧ T2 k1 = some (.tail kids.length) ∧
  (kd = 4 ∧ (∃ k2, k2 ≠ k1 ∧ h.T k2 = none ∧ S = .row 1 (shares.map encI) (some k2) ∧ T2 k2 = some (.tail shares.length) ∧ shares.length = kids.length) ∨ kd ≠ 4 ∧ shares = [] ∧ S = .v (.slice none 0 0)) ∧
  (∀ k, h.T k ≠ none → T2 k = h.T k) ∧ (∀ t ∈ kids, LB (d + 1) t) ∧ (∀ x ∈ shares, NB x) ∧ (a' ≤ a2 ∧ a2 ≤ a' + kids.length * (costR d + 3)) ∧
  s = ⟨(AV.junk :: ((.v (.int .i64 deep)) :: (.ref [.ptr i 0] 0) :: AV.junk :: ((.loc 0 0) :: AV.junk :: ((.loc 1 0) :: (jnk 25 ((.v (.int .i64 many)) :: (.v (.int .i64 kids.length)) :: (jnk 42 []))))))),
   [[.v (.int .i64 0), .v (.string { data := #[] }), .v (.int .i64 0), .v (.int .i64 0), .v (.slice none 0 0), .v (.slice none 0 0)], [.v (.int .i64 kd), .v (.string { data := #[] }), .v (.int .i64 0), .v (.int .i64 mn), .row 6 (kids.map encX) (some k1), S]], Hp.st ⟨h.H, T2⟩ i l a2⟩
theorem g_right : ∀ (d : Nat) (deep : Int) (_ : deep ≤ d ∧ -10 ≤ deep ∧ d ≤ 100) (i : Nat) (l : List Int) (a : Int) (h : Hp) (_ : SOk l) (_ : 0 ≤ a ∧ a + costR d ≤ 900000000),
  ACalls Tryz.prog 63 [.ptr i 0, .v (.int .i64 deep)] (h.st i l a) (fun r h' => ∃ t a', LB (d + 1) t ∧ (a ≤ a' ∧ a' ≤ a + costR d) ∧ r = .agg (encX t) ∧ h' = h.st i l a')
 | 0, deep, hd, i, l, a, h, hl, ha => by
  have hc : costR 0 = 20 := rfl
  refine gE Tryz.func63 rfl (by kernel_rfl) 74 rfl fun c => ?_
  (repeat (first | refine gO rfl ?_ | ((refine gM zM2A fun K1 hK1 => ?_; simp only [go_sem, ↓reduceIte, reduceCtorEq, nA, nB, nC, nD, nE, nF] <;> and_intros <;> first | (apply hK1; clear hK1 K1) | (intros; first | decide | (simp_all <;> omega)) | skip))))
  intro h1
  refine hK1 _ ?_; clear hK1 K1
  (repeat (first | refine gO rfl ?_ | ((refine gM zM2A fun K1 hK1 => ?_; simp only [go_sem, ↓reduceIte, reduceCtorEq, nA, nB, nC, nD, nE, nF, h1] <;> and_intros <;> (apply hK1; clear hK1 K1)))))
  refine awp_cond (t := _) rfl (fun _ => ?_) (fun h2 => by cases h2)
  (repeat (((refine gM zM2A fun K1 hK1 => ?_; simp only [go_sem, ↓reduceIte, reduceCtorEq, nA, nB, nC, nD, nE, nF] <;> and_intros))))
  refine (g_item i l a h hl (by omega)).mono ?_; rintro _ _ ⟨t, ht, rfl, rfl⟩; apply hK1; clear hK1 K1
  have hlen := encX_len t
  have htk : List.take 6 (encX t) = encX t := List.take_of_length_le (Nat.le_of_eq hlen)
  (repeat (first | refine gO rfl ?_ | ((refine gM zM2A fun K1 hK1 => ?_; simp only [go_sem, ↓reduceIte, reduceCtorEq, nA, nB, nC, nD, nE, nF, hlen] <;> and_intros <;> (apply hK1; clear hK1 K1)))))
  simp only [Tryz.results63, go_sem, ↓reduceIte, reduceCtorEq, nA, nB, nC, nD, nE, nF, hlen, htk]
  exact ⟨_, _, Weak.refl _, Hp.le.refl _, t, a + 2, ht, by omega, rfl, rfl⟩
 | d + 1, deep, hd, i, l, a, h, hl, ha => by
  have hc : costR (d + 1) = 20 + 3 * (costR d + 10) := rfl
  have hc0 : 20 ≤ costR d := by
   clear hc ha hd
   induction d with
   | zero => exact Int.le_refl _
   | succ n ih => show 20 ≤ 20 + 3 * (costR n + 10); omega
  refine gE Tryz.func63 rfl (by kernel_rfl) 74 rfl fun c => ?_
  (repeat (first | refine gO rfl ?_ | ((refine gM zM2A fun K1 hK1 => ?_; simp only [go_sem, ↓reduceIte, reduceCtorEq, nA, nB, nC, nD, nE, nF] <;> and_intros <;> first | (apply hK1; clear hK1 K1) | (intros; (decide)) | skip))))
  rotate_left
  ·intro h1
   refine hK1 _ ?_; clear hK1 K1
   (repeat (first | refine gO rfl ?_ | ((refine gM zM2A fun K1 hK1 => ?_; simp only [go_sem, ↓reduceIte, reduceCtorEq, nA, nB, nC, nD, nE, nF, h1] <;> and_intros <;> (apply hK1; clear hK1 K1)))))
   refine awp_cond (t := _) rfl (fun _ => ?_) (fun h2 => by cases h2)
   (repeat (((refine gM zM2A fun K1 hK1 => ?_; simp only [go_sem, ↓reduceIte, reduceCtorEq, nA, nB, nC, nD, nE, nF] <;> and_intros))))
   refine (g_item i l a h hl (by omega)).mono ?_; rintro _ _ ⟨t, ht, rfl, rfl⟩; apply hK1; clear hK1 K1
   have hlen := encX_len t
   have htk : List.take 6 (encX t) = encX t := List.take_of_length_le (Nat.le_of_eq hlen)
   (repeat (first | refine gO rfl ?_ | ((refine gM zM2A fun K1 hK1 => ?_; simp only [go_sem, ↓reduceIte, reduceCtorEq, nA, nB, nC, nD, nE, nF, hlen] <;> and_intros <;> (apply hK1; clear hK1 K1)))))
   simp only [Tryz.results63, go_sem, ↓reduceIte, reduceCtorEq, nA, nB, nC, nD, nE, nF, hlen, htk]
   exact ⟨_, _, Weak.refl _, Hp.le.refl _, t, a + 2, ht.mono (by omega), by omega, rfl, rfl⟩
  ·intro h1
   refine ⟨h1, ?_⟩
   refine (g_flip i l a 5 h hl (by omega) (by omega)).mono ?_
   rintro _ _ ⟨b, rfl, rfl⟩
   refine ⟨rfl, hK1 _ ?_⟩; clear hK1 K1
   (repeat (first | refine gO rfl ?_ | ((refine gM zM2A fun K1 hK1 => ?_; simp only [go_sem, ↓reduceIte, reduceCtorEq, nA, nB, nC, nD, nE, nF, h1] <;> and_intros <;> (apply hK1; clear hK1 K1)))))
   refine awp_cond (t := _) rfl (fun _ => ?_) (fun h2 => ?_)
   ·(repeat (((refine gM zM2A fun K1 hK1 => ?_; simp only [go_sem, ↓reduceIte, reduceCtorEq, nA, nB, nC, nD, nE, nF] <;> and_intros))))
    refine (g_item i l (a + 1) h hl (by omega)).mono ?_; rintro _ _ ⟨t, ht, rfl, rfl⟩; apply hK1; clear hK1 K1
    have hlen := encX_len t
    have htk : List.take 6 (encX t) = encX t := List.take_of_length_le (Nat.le_of_eq hlen)
    (repeat (first | refine gO rfl ?_ | ((refine gM zM2A fun K1 hK1 => ?_; simp only [go_sem, ↓reduceIte, reduceCtorEq, nA, nB, nC, nD, nE, nF, hlen] <;> and_intros <;> (apply hK1; clear hK1 K1)))))
    simp only [Tryz.results63, go_sem, ↓reduceIte, reduceCtorEq, nA, nB, nC, nD, nE, nF, hlen, htk]
    exact ⟨_, _, Weak.refl _, Hp.le.refl _, t, a + 1 + 2, ht.mono (by omega), by omega, rfl, rfl⟩
   ·(repeat (first | refine gO rfl ?_ | ((refine gM zM2A fun K1 hK1 => ?_; simp only [go_sem, ↓reduceIte, reduceCtorEq, nA, nB, nC, nD, nE, nF] <;> and_intros <;> first | (intros; (decide)) | skip))))
    refine (g_pick i l (a + 1) [2, 2, 3, 4, 5] none h hl (by omega) (by simp)).mono ?_; rintro _ _ ⟨kd, hkd, rfl, rfl⟩; apply hK1; clear hK1 K1
    (repeat (first | refine gO rfl ?_ | ((refine gM zM2A fun K1 hK1 => ?_; simp only [go_sem, ↓reduceIte, reduceCtorEq, nA, nB, nC, nD, nE, nF] <;> and_intros <;> first | (apply hK1; clear hK1 K1) | skip))))
    refine (g_range i l (a + 1 + 1) 1 3 h hl (by omega) (by omega) (by omega) (by omega)).mono ?_; rintro _ _ ⟨many, hmany, rfl, rfl⟩; apply hK1; clear hK1 K1
    (repeat (first | refine gO rfl ?_ | ((refine gM zM2A fun K1 hK1 => ?_; simp only [go_sem, ↓reduceIte, reduceCtorEq, nA, nB, nC, nD, nE, nF] <;> and_intros <;> (apply hK1; clear hK1 K1)))))
    have hk5 : 2 ≤ kd ∧ kd ≤ 5 := by simp at hkd; omega
    clear hkd
    refine awp_join (rl false [1, 2, 1, 1, 1, 2, 68]) 2 (fun s => ∃ mn many a' : Int, (0 ≤ mn ∧ mn ≤ 3) ∧ (1 ≤ many ∧ many ≤ 3) ∧ (a ≤ a' ∧ a' ≤ a + 4) ∧
     s = ⟨(AV.junk :: ((.v (.int .i64 deep)) :: (.ref [.ptr i 0] 0) :: AV.junk :: ((.loc 0 0) :: AV.junk :: ((.loc 1 0) :: (.v (.int .i64 many)) :: (jnk 68 []))))),
      [[.v (.int .i64 0), .v (.string { data := #[] }), .v (.int .i64 0), .v (.int .i64 0), .v (.slice none 0 0), .v (.slice none 0 0)], [.v (.int .i64 kd), .v (.string { data := #[] }), .v (.int .i64 0), .v (.int .i64 mn), .v (.slice none 0 0), .v (.slice none 0 0)]], h.st i l a'⟩) ?_ ?_
    ·refine awp_cond (t := _) rfl (fun h5 => ?_) (fun h5 => ?_)
     ·(repeat (((refine gM zM2A fun K1 hK1 => ?_; simp only [go_sem, ↓reduceIte, reduceCtorEq, nA, nB, nC, nD, nE, nF] <;> and_intros <;> first | (intros; (decide)) | skip))))
      refine (g_pick i l (a + 1 + 1 + 1) [1, 2, 3] none h hl (by omega) (by simp)).mono ?_; rintro _ _ ⟨mn, hmn, rfl, rfl⟩; apply hK1; clear hK1 K1
      (repeat (first | refine gO rfl ?_ | ((refine gM zM2A fun K1 hK1 => ?_; simp only [go_sem, ↓reduceIte, reduceCtorEq, nA, nB, nC, nD, nE, nF] <;> and_intros <;> (apply hK1; clear hK1 K1)))))
      exact ⟨mn, 1, _, by simp at hmn; omega, by omega, by omega, rfl⟩
     ·(repeat ((refine gO rfl ?_)))
      exact ⟨0, many, _, by omega, hmany, by omega, rfl⟩
    ·rintro _ ⟨mn, many, a', hmn, hmany2, ha', rfl⟩
     refine awp_ownLoc 1 4 6 rfl rfl (fun k1 hk1 => ?_)
     simp only [List.set_cons_zero, List.set_cons_succ]
     refine awp_via (fun s => ∃ (S : AV) (T' : Nat → Option TO), T' k1 = some (.tail 0) ∧ (kd = 4 ∧ (∃ k2, k2 ≠ k1 ∧ h.T k2 = none ∧ S = .row 1 [] (some k2) ∧ T' k2 = some (.tail 0)) ∨ kd ≠ 4 ∧ S = .v (.slice none 0 0)) ∧ (∀ k, h.T k ≠ none → T' k = h.T k) ∧
      s = ⟨(AV.junk :: ((.v (.int .i64 deep)) :: (.ref [.ptr i 0] 0) :: AV.junk :: ((.loc 0 0) :: AV.junk :: ((.loc 1 0) :: (.v (.int .i64 many)) :: (jnk 68 []))))),
       [[.v (.int .i64 0), .v (.string { data := #[] }), .v (.int .i64 0), .v (.int .i64 0), .v (.slice none 0 0), .v (.slice none 0 0)], [.v (.int .i64 kd), .v (.string { data := #[] }), .v (.int .i64 0), .v (.int .i64 mn), .row 6 [] (some k1), S]], Hp.st ⟨h.H, T'⟩ i l a'⟩) ?_ ?_
     rotate_left
     ·intro main
      by_cases h4 : kd = 4
      ·refine awp_ownLoc 1 5 1 rfl rfl (fun k2 hk2 => ?_)
       simp only [List.set_cons_zero, List.set_cons_succ]
       have hne : k2 ≠ k1 := fun e => by subst e; simp [upd_same] at hk2
       simp only [upd_other _ _ hne] at hk2
       refine main _ ⟨_, upd (upd h.T k1 (some (.tail 0))) k2 (some (.tail 0)), by rw [upd_other _ _ hne.symm, upd_same], .inl ⟨h4, k2, hne, hk2, rfl, upd_same _ _ _⟩, fun k hk => ?_, rfl⟩
       have e1 : k ≠ k1 := fun e => hk (e ▸ hk1)
       have e2 : k ≠ k2 := fun e => hk (e ▸ hk2)
       rw [upd_other _ _ e2, upd_other _ _ e1]
      ·refine main _ ⟨_, upd h.T k1 (some (.tail 0)), upd_same _ _ _, .inr ⟨h4, rfl⟩, fun k hk => ?_, rfl⟩
       have e1 : k ≠ k1 := fun e => hk (e ▸ hk1)
       rw [upd_other _ _ e1]
     ·rintro _ ⟨S, T', hT1, hS, hTT, rfl⟩
      (repeat (first | refine gO rfl ?_ | ((refine gM zM2A fun K1 hK1 => ?_; simp only [go_sem, ↓reduceIte, reduceCtorEq, nA, nB, nC, nD, nE, nF] <;> and_intros <;> (apply hK1; clear hK1 K1)))))
      refine awp_loopC (rl false [1, 2, 1, 1, 1, 1, 25, 2, 42]) 2 (fun g s => RightI d deep i l h kd mn many a' k1 g s) many.toNat ⟨[], [], S, T', a', by simp; omega, hT1, by
       rcases hS with ⟨x1, k2, x2, x5, x3, x4⟩ | ⟨x1, x2⟩
       ·exact .inl ⟨x1, k2, x2, x5, x3, x4, rfl⟩
       ·exact .inr ⟨x1, rfl, x2⟩, hTT, by simp, by simp, by simp, rfl⟩ ?_
      rintro n _ ⟨kids, shares, S, T2, a2, hn, hT1, hS, hTT, hkl, hsb, ha2, rfl⟩
      have hkn : (kids.length : Int) ≤ 3 := by omega
      have hcd : (kids.length : Int) * (costR d + 3) ≤ 3 * (costR d + 3) := Int.mul_le_mul_of_nonneg_right hkn (by omega)
      (repeat (first | refine gO rfl ?_ | ((refine gM zM2A fun K1 hK1 => ?_; simp only [go_sem, ↓reduceIte, reduceCtorEq, nA, nB, nC, nD, nE, nF] <;> and_intros <;> (apply hK1; clear hK1 K1)))))
      refine awp_cond (t := _) rfl (fun h5 => ?_) (fun h5 => ?_)
      rotate_left
      ·(repeat (first | refine gO rfl ?_ | ((refine gM zM2A fun K1 hK1 => ?_; simp only [go_sem, ↓reduceIte, reduceCtorEq, nA, nB, nC, nD, nE, nF] <;> and_intros <;> (apply hK1; clear hK1 K1)))))
       simp only [Tryz.results63, go_sem, ↓reduceIte, reduceCtorEq, nA, nB, nC, nD, nE, nF]
       have hkl2 : (kids.length : Int) = many := by simp only [decide_eq_false_iff_not] at h5; omega
       refine ⟨_, _, ?_, le_st hTT i l a2, .mk kd default 0 mn kids shares, a2, ?_, by omega, rfl, rfl⟩
       ·rw [encX_eq]
        refine Weak.agg (.cons (Weak.refl _) (.cons (Weak.refl _) (.cons (Weak.refl _) (.cons (Weak.refl _) (.cons ?_ (.cons ?_ .nil))))))
        ·cases kids with
         | nil => simp at hkl2; omega
         | cons x xs => exact Weak.row _ _ _
        ·rcases hS with ⟨_, k2, _, _, rfl, _, h6⟩ | ⟨_, rfl, rfl⟩
         ·cases shares with
          | nil => simp at h6; omega
          | cons x xs => exact Weak.row _ _ _
         ·exact Weak.refl _
       ·refine ⟨by unfold NB; omega, by decide, by unfold NB; omega, by unfold NB; omega, by omega, ?_, hsb, hkl⟩
        rcases hS with ⟨_, k2, _, _, rfl, _, h6⟩ | ⟨_, rfl, rfl⟩
        ·omega
        ·simp
      ·simp only [decide_eq_true_eq] at h5
       have hcd2 : (kids.length : Int) * (costR d + 3) ≤ 2 * (costR d + 3) := Int.mul_le_mul_of_nonneg_right (by omega) (by omega)
       have hd1 : 1 ≤ deep := by simp only [decide_eq_false_iff_not] at h1; omega
       (repeat (first | refine gO rfl ?_ | ((first | refine gM zM2A ?_ | ((with_reducible refine xS ?_); refine uF 10 zM2A 7 zPRE zPRP 76 rfl (by kernel_rfl) ?_)) <;> ((try with_reducible intro K1 hK1); simp only [go_sem, ↓reduceIte, reduceCtorEq, nA, nB, nC, nD, nE, nF] <;> and_intros <;> first | (apply hK1; clear hK1 K1) | (intros; (decide)) | skip))))
       refine (g_pick i l a2 [1, 1, 2] none ⟨h.H, T2⟩ hl (by omega) (by simp)).mono ?_; rintro _ _ ⟨dx, hdx, rfl, rfl⟩; apply hK1; clear hK1 K1
       have hdx2 : 1 ≤ dx ∧ dx ≤ 2 := by simp at hdx; omega
       (repeat (((first | refine gM zM2A ?_ | (with_reducible refine wM ?_ ?_)) <;> ((try with_reducible intro K1 hK1); simp only [go_sem, ↓reduceIte, reduceCtorEq, nA, nB, nC, nD, nE, nF] <;> and_intros <;> first | (apply hK1; clear hK1 K1) | (intros; first | omega | (simp_all <;> omega)) | skip))))
       refine (g_right d (deep - dx) (by omega) i l (a2 + 1) ⟨h.H, T2⟩ hl (by omega)).mono ?_; rintro _ _ ⟨t, a3, ht, ha3, rfl, rfl⟩; apply hK1; clear hK1 K1
       have hlen := encX_len t
       (repeat (first | refine gQ rfl ?_ | ((first | refine gM zM2A ?_ | (with_reducible refine wM ?_ ?_)) <;> ((try with_reducible intro K1 hK1); simp only [go_sem, ↓reduceIte, reduceCtorEq, nA, nB, nC, nD, nE, nF, hlen] <;> and_intros <;> (apply hK1; clear hK1 K1)))))
       refine awp_seq ?_
       refine awp_join (rl false [1, 2, 1, 1, 1, 1, 1, 1, 23, 2, 42]) 3 (fun s => ∃ t a4, LB (d + 1) t ∧ (a2 ≤ a4 ∧ a4 ≤ a2 + costR d + 2) ∧
        s = ⟨(AV.junk :: ((.v (.int .i64 deep)) :: (.ref [.ptr i 0] 0) :: AV.junk :: ((.loc 0 0) :: AV.junk :: ((.loc 1 0) :: AV.junk :: ((.loc 2 0) :: (jnk 23 ((.v (.int .i64 many)) :: (.v (.int .i64 kids.length)) :: (jnk 42 [])))))))),
         [[.v (.int .i64 0), .v (.string { data := #[] }), .v (.int .i64 0), .v (.int .i64 0), .v (.slice none 0 0), .v (.slice none 0 0)], [.v (.int .i64 kd), .v (.string { data := #[] }), .v (.int .i64 0), .v (.int .i64 mn), .row 6 (kids.map encX) (some k1), S], encX t], Hp.st ⟨h.H, T2⟩ i l a4⟩) ?_ ?_
       ·(repeat (first | refine gO rfl ?_ | ((refine gM zM2A fun K1 hK1 => ?_; simp only [go_sem, ↓reduceIte, reduceCtorEq, nA, nB, nC, nD, nE, nF] <;> and_intros <;> first | (apply hK1; clear hK1 K1) | skip))))
        rotate_left
        ·intro h6
         refine hK1 _ ?_; clear hK1 K1
         (repeat (first | refine gO rfl ?_ | ((refine gM zM2A fun K1 hK1 => ?_; simp only [go_sem, ↓reduceIte, reduceCtorEq, nA, nB, nC, nD, nE, nF, h6] <;> and_intros <;> (apply hK1; clear hK1 K1)))))
         refine awp_cond (t := _) rfl (fun h7 => by cases h7) (fun h7 => ?_)
         (repeat ((refine gO rfl ?_)))
         exact ⟨t, a3, ht, by omega, rfl⟩
        ·intro h6
         refine ⟨h6, ?_⟩
         refine (g_flip i l a3 3 ⟨h.H, T2⟩ hl (by omega) (by omega)).mono ?_
         rintro _ _ ⟨b2, rfl, rfl⟩
         refine ⟨rfl, hK1 _ ?_⟩; clear hK1 K1
         (repeat (first | refine gO rfl ?_ | ((refine gM zM2A fun K1 hK1 => ?_; simp only [go_sem, ↓reduceIte, reduceCtorEq, nA, nB, nC, nD, nE, nF, h6] <;> and_intros <;> (apply hK1; clear hK1 K1)))))
         refine awp_cond (t := _) rfl (fun h7 => ?_) (fun h7 => ?_)
         ·simp only [decide_eq_true_eq] at h6
          have hg : (kids.map encX).getD ((kids.length : Int) - 1).toNat [] = encX (kids.getD ((kids.length : Int) - 1).toNat default) := getD_encX (by omega)
          have hm : kids.getD ((kids.length : Int) - 1).toNat default ∈ kids := by
           rw [List.getD_eq_getElem?_getD, List.getElem?_eq_getElem (show ((kids.length : Int) - 1).toNat < kids.length by omega)]
           exact List.getElem_mem _
          generalize kids.getD ((kids.length : Int) - 1).toNat default = t2 at hg hm
          have hlen2 := encX_len t2
          have htk2 : List.take 6 (encX t2) = encX t2 := List.take_of_length_le (Nat.le_of_eq hlen2)
          have hdr : List.drop 6 (encX t) = [] := List.drop_of_length_le (Nat.le_of_eq hlen)
          (repeat (first | refine gO rfl ?_ | ((refine gM zM2A fun K1 hK1 => ?_; simp only [go_sem, ↓reduceIte, reduceCtorEq, nA, nB, nC, nD, nE, nF, hg, hlen, hlen2, htk2, hdr] <;> and_intros <;> first | (apply hK1; clear hK1 K1) | (intros; (omega))))))
          exact ⟨t2, a3 + 1, hkl _ hm, by omega, rfl⟩
         ·(repeat ((refine gO rfl ?_)))
          exact ⟨t, a3 + 1, ht, by omega, rfl⟩
       ·clear ht ha3 hlen t a3
        rintro _ ⟨t, a4, ht, ha4, rfl⟩
        have hlen := encX_len t
        have htk : List.take 6 (encX t) = encX t := List.take_of_length_le (Nat.le_of_eq hlen)
        (repeat (first | refine gO rfl ?_ | ((refine gM zM2A fun K1 hK1 => ?_; simp only [go_sem, ↓reduceIte, reduceCtorEq, nA, nB, nC, nD, nE, nF, hlen, htk, hT1, st_T] <;> and_intros <;> first | (apply hK1; clear hK1 K1) | (intros; first | omega | decide)))))
        rcases hS with ⟨h4, k2, hne, hk2, rfl, hT3, hsl⟩ | ⟨h4, rfl, rfl⟩
        ·refine awp_cond (t := _) rfl (fun _ => ?_) (fun h7 => absurd h4 (by simpa using h7))
         have hT4 : upd T2 k1 (some (.tail (kids.length + 1))) k2 = some (.tail shares.length) := by rw [upd_other _ _ hne]; exact hT3
         (repeat (((first | refine gM zM2A ?_ | ((with_reducible refine xR ?_); refine uE 16 zM2A zPSE zPSP 76 rfl (by kernel_rfl) ?_)) <;> ((try with_reducible intro K1 hK1); simp only [go_sem, ↓reduceIte, reduceCtorEq, nA, nB, nC, nD, nE, nF, hT4, st_T] <;> and_intros <;> first | (apply hK1; clear hK1 K1) | (intros; (decide)) | skip))))
         refine (g_pick i l a4 [1, 1, 2, 3, 4] none ⟨h.H, upd T2 k1 (some (.tail (kids.length + 1)))⟩ hl (by omega) (by simp)).mono ?_; rintro _ _ ⟨sx, hsx, rfl, rfl⟩; apply hK1; clear hK1 K1
         (repeat (first | refine gO rfl ?_ | ((first | refine gM zM2A ?_ | (with_reducible refine wM ?_ ?_)) <;> ((try with_reducible intro K1 hK1); simp only [go_sem, ↓reduceIte, reduceCtorEq, nA, nB, nC, nD, nE, nF, hT4, st_T, encI] <;> and_intros <;> first | (apply hK1; clear hK1 K1) | (intros; first | omega | decide | (simp_all <;> omega))))))
         refine ⟨n - 1, by omega, kids ++ [t], shares ++ [sx], _, upd (upd T2 k1 (some (.tail (kids.length + 1)))) k2 (some (.tail (shares.length + 1))), a4 + 1, by simp; omega, by rw [upd_other _ _ hne.symm, upd_same]; simp, .inl ⟨h4, k2, hne, hk2, by simp [encI]; rfl, by rw [upd_same]; simp, by simp; omega⟩, ?_, ?_, ?_, ?_, ?_⟩
         ·intro k hk
          have e1 : k ≠ k1 := fun e => hk (e ▸ hk1)
          by_cases e2 : k = k2
          ·subst e2; exact absurd hk2 hk
          ·rw [upd_other _ _ e2, upd_other _ _ e1]; exact hTT k hk
         ·intro x hx
          rcases List.mem_append.1 hx with hx | hx
          ·exact hkl x hx
          ·simp at hx; subst hx; exact ht
         ·intro x hx
          rcases List.mem_append.1 hx with hx | hx
          ·exact hsb x hx
          ·simp at hx hsx; subst hx; unfold NB; omega
         ·have e9 : ((kids ++ [t]).length : Int) * (costR d + 3) = kids.length * (costR d + 3) + (costR d + 3) := by simp [Int.add_mul]
          rw [e9]; omega
         ·simp; rfl
        ·refine awp_cond (t := _) rfl (fun h7 => absurd (by simpa using h7) h4) (fun _ => ?_)
         (repeat (first | refine gO rfl ?_ | ((refine gM zM2A fun K1 hK1 => ?_; simp only [go_sem, ↓reduceIte, reduceCtorEq, nA, nB, nC, nD, nE, nF] <;> and_intros <;> first | (apply hK1; clear hK1 K1) | (intros; (omega))))))
         refine ⟨n - 1, by omega, kids ++ [t], [], _, upd T2 k1 (some (.tail (kids.length + 1))), a4, by simp; omega, by rw [upd_same]; simp, .inr ⟨h4, rfl, rfl⟩, ?_, ?_, ?_, ?_, ?_⟩
         ·intro k hk
          have e1 : k ≠ k1 := fun e => hk (e ▸ hk1)
          rw [upd_other _ _ e1]; exact hTT k hk
         ·intro x hx
          rcases List.mem_append.1 hx with hx | hx
          ·exact hkl x hx
          ·simp at hx; subst hx; exact ht
         ·simp
         ·have e9 : ((kids ++ [t]).length : Int) * (costR d + 3) = kids.length * (costR d + 3) + (costR d + 3) := by simp [Int.add_mul]
          rw [e9]; omega
         ·simp; rfl
abbrev zPTE : List Nat := [0, 1, 2, 3, 4, 5, 6]
abbrev zPTP : List (Nat × List Nat × List Nat) := [(7, [4], [8]), (9, [], [10, 11]), (12, [], [])]
attribute [go_sem] zPTE zPTP
theorem st_obj {h : Hp} {i o : Nat} (hio : o ≠ i) (l : List Int) (a : Int) (x : AO) (T1 : Nat → Option TO) : ({ H := upd (h.st i l a).H o (some x), T := T1 } : Hp) = Hp.st ⟨upd h.H o (some x), T1⟩ i l a := by
 simp only [Hp.st]
 congr 1
 funext j
 by_cases hj : j = o
 ·subst hj; rw [upd_same, upd_other _ _ hio, upd_same]
 ·by_cases hji : j = i
  ·subst hji; rw [upd_other _ _ hj, upd_same, upd_same]
  ·rw [upd_other _ _ hj, upd_other _ _ hji, upd_other _ _ hji, upd_other _ _ hj]
theorem st_obj2 {h : Hp} {i o : Nat} (hio : o ≠ i) (l : List Int) (b : Int) (X : Option AO) (Y : AO) (T1 T2 : Nat → Option TO) : ({ H := upd (Hp.st ⟨upd h.H o X, T1⟩ i l b).H o (some Y), T := T2 } : Hp) = Hp.st ⟨upd h.H o (some Y), T2⟩ i l b := by
 rw [st_obj hio]; simp only [upd_upd]
theorem st_mk3 {s : St} {sl : List AV} {lo : List (List AV)} {h : Hp} (h1 : s.sl = sl) (h2 : s.lo = lo) (h3 : s.h = h) : s = ⟨sl, lo, h⟩ := by cases s; simp_all
section
variable {b : Bool} {T : Nat → Option TO} {S : Nat → Prop} {e : Nat} {k i l m K Sh : AV}
theorem OLd.kind {r : List AV} (h : OLd b T S e (k :: r)) {k' : Int} (hk : NB k') : OLd b T S e (.v (.int .i64 k') :: r) := by
 cases e with
 | zero => exact h.elim
 | succ e =>
  obtain ⟨kind, item, long, many, K, Sh, he, ⟨h0, h1, h2, h3⟩, h4, h5⟩ := h
  cases he
  exact ⟨_, _, _, _, _, _, rfl, ⟨hk, h1, h2, h3⟩, h4, h5⟩
theorem OLd.il (h : OLd b T S e [k, i, l, m, K, Sh]) {i' : ByteArray} {l' : Int} (hi : i'.size ≤ 2) (hk : NB l') : OLd b T S e [k, .v (.string i'), .v (.int .i64 l'), m, K, Sh] := by
 cases e with
 | zero => exact h.elim
 | succ e =>
  obtain ⟨kind, item, long, many, K, Sh, he, ⟨h0, h1, h2, h3⟩, h4, h5⟩ := h
  cases he
  exact ⟨_, _, _, _, _, _, rfl, ⟨h0, hi, hk, h3⟩, h4, h5⟩
theorem OLd.many (h : OLd b T S e [k, i, l, m, K, Sh]) {l' : Int} (hk : NB l') : OLd b T S e [k, i, l, .v (.int .i64 l'), K, Sh] := by
 cases e with
 | zero => exact h.elim
 | succ e =>
  obtain ⟨kind, item, long, many, K, Sh, he, ⟨h0, h1, h2, h3⟩, h4, h5⟩ := h
  cases he
  exact ⟨_, _, _, _, _, _, rfl, ⟨h0, h1, h2, hk⟩, h4, h5⟩
theorem OLd.nokids (h : OLd b T S e [k, i, l, m, K, Sh]) : OLd b T S e [k, i, l, m, .v (.slice none 0 0), Sh] := by
 cases e with
 | zero => exact h.elim
 | succ e =>
  obtain ⟨kind, item, long, many, K, Sh, he, h3, h4, h5⟩ := h
  cases he
  exact ⟨_, _, _, _, _, _, rfl, h3, .inl rfl, h5⟩
theorem OLd.share (h : OLd false T S e [k, i, l, m, K, Sh]) {xs : List Int} {q : Nat} (hx : xs.length ≤ 5) (hb : ∀ x ∈ xs, NB x) : OLd false T S e [k, i, l, m, K, .row 1 (xs.map encI) (some q)] := by
 cases e with
 | zero => exact h.elim
 | succ e =>
  obtain ⟨kind, item, long, many, K, Sh, he, h3, h4, h5⟩ := h
  cases he
  exact ⟨_, _, _, _, _, _, rfl, h3, h4, .inr ⟨xs, q, rfl, hx, hb, fun h => by cases h⟩⟩
theorem OLd.wrap {cs : List AV} (h : OLd false T S e cs) {k' m' : Int} (hk : NB k') (hm : NB m') : OLd false T S (e + 1) [.v (.int .i64 k'), .v (.string { data := #[] }), .v (.int .i64 0), .v (.int .i64 m'), .row 6 [cs] none, .v (.slice none 0 0)] :=
 ⟨_, _, _, _, _, _, rfl, ⟨hk, by decide, by unfold NB; omega, hm⟩, .inr (.inr ⟨rfl, _, rfl, by simp, by simpa using h⟩), .inl rfl⟩
end
def LoopJ (i o : Nat) (l : List Int) (a b : Int) (h : Hp) (bb : Bool) (d : Nat) (s : St) : Prop :=
 ∃ cs T' a', OLd bb T' (fun k => h.T k = none) d cs ∧ (∀ k, h.T k ≠ none → T' k = h.T k) ∧ (a ≤ a' ∧ a' ≤ b) ∧
  s = ⟨((.ptr i 0) :: (jnk 3 ((.loc 0 0) :: (.ptr o 0) :: (jnk 77 [])))), [[.v (.int .i64 0), .v (.string { data := #[] }), .v (.int .i64 0), .v (.int .i64 0), .v (.slice none 0 0), .v (.slice none 0 0)]], Hp.st ⟨upd h.H o (some (.cells cs)), T'⟩ i l a'⟩
theorem g_Loop0 (d : Nat) (deep : Int) (hd : deep ≤ d ∧ -10 ≤ deep ∧ d ≤ 100) (i : Nat) (l : List Int) (a : Int) (h : Hp) (hl : SOk l) (ha : 0 ≤ a ∧ a + costR d + 2 * d + 40 ≤ 900000000) :
  ACalls Tryz.prog 8 [.ptr i 0, .v (.int .i64 deep)] (h.st i l a) (fun r h' => ∃ cs T' a', OLd false T' (fun k => h.T k = none) (d + 20) cs ∧ (∀ k, h.T k ≠ none → T' k = h.T k) ∧ (a ≤ a' ∧ a' ≤ a + costR d + 2 * d + 40) ∧ r = .agg cs ∧ h' = Hp.st ⟨h.H, T'⟩ i l a') := by
 refine gE Tryz.func8 rfl (by kernel_rfl) 81 rfl fun c => ?_
 (repeat (first | refine gO rfl ?_ | ((refine gM zM2B fun K1 hK1 => ?_; simp only [go_sem, ↓reduceIte, reduceCtorEq, nA, nB, nC, nD, nE, nF] <;> and_intros <;> first | (apply hK1; clear hK1 K1) | skip))))
 refine (g_right d deep hd i l a h hl (by omega)).mono ?_; rintro _ _ ⟨t, a1, ht, ha1, rfl, rfl⟩; apply hK1; clear hK1 K1
 (repeat (((refine gM zM2B fun K1 hK1 => ?_; simp only [go_sem, ↓reduceIte, reduceCtorEq, nA, nB, nC, nD, nE, nF] <;> and_intros))))
 refine (g_copied (d + 1) t (h.st i l a1) ht).mono ?_
 rintro _ _ ⟨cs, T1, hcs, hT1, rfl, rfl⟩
 refine hK1 _ ?_; clear hK1 K1
 have hcsl := hcs.len
 have htk : List.take 6 cs = cs := List.take_of_length_le (Nat.le_of_eq hcsl)
 have hdr : List.drop 6 cs = [] := List.drop_of_length_le (Nat.le_of_eq hcsl)
 (repeat (((refine gM zM2B fun K1 hK1 => ?_; simp only [go_sem, ↓reduceIte, reduceCtorEq, nA, nB, nC, nD, nE, nF, hcsl, htk, hdr] <;> and_intros))))
 intro o ho
 have hio : o ≠ i := fun e => by subst e; rw [st_at] at ho; cases ho
 and_intros <;> first | (refine hK1 _ ?_; clear hK1 K1) | exact .inl trivial | exact .inr rfl | exact .inr True.intro | exact True.intro | omega
 rw [st_obj hio]
 replace hcs : OLd true T1 (fun k => h.T k = none) (d + 1) cs := hcs
 replace hT1 : ∀ k, h.T k ≠ none → T1 k = h.T k := hT1
 (repeat ((refine gQ rfl ?_)))
 refine awp_seq ?_
 refine awp_join (rl false [0, 1, 3, 2, 77]) 1 (fun s => LoopJ i o l a (a + costR d + 2 * d + 40) h false (d + 20) s) ?_ ?_
 rotate_left
 ·rintro _ ⟨cs, T', a', hcs, hT', ha', rfl⟩
  have hcsl := hcs.len
  have htk : List.take 6 cs = cs := List.take_of_length_le (Nat.le_of_eq hcsl)
  have hdr : List.drop 6 cs = [] := List.drop_of_length_le (Nat.le_of_eq hcsl)
  have hH : (Hp.st ⟨upd h.H o (some (.cells cs)), T'⟩ i l a').H o = some (.cells cs) := by simp only [Hp.st, upd_other _ _ hio, upd_same]
  (repeat (first | refine gO rfl ?_ | ((refine gM zM2B fun K1 hK1 => ?_; simp only [go_sem, ↓reduceIte, reduceCtorEq, nA, nB, nC, nD, nE, nF, hcsl, htk, hdr, hH] <;> and_intros <;> (apply hK1; clear hK1 K1)))))
  simp only [Tryz.results8, go_sem, ↓reduceIte, reduceCtorEq, nA, nB, nC, nD, nE, nF, hcsl, htk, hdr]
  refine ⟨_, Hp.st ⟨h.H, T'⟩ i l a', Weak.refl _, ⟨fun j => ?_, fun k => .inr rfl⟩, cs, T', a', hcs, hT', ha', rfl, rfl⟩
  simp only [Hp.st] at ho ⊢
  rw [upd_other _ _ hio] at ho
  by_cases hj : j = i
  ·subst hj; exact .inr (by rw [upd_same, upd_same])
  ·by_cases hjo : j = o
   ·subst hjo; exact .inl (by rw [upd_other _ _ hj]; exact ho)
   ·exact .inr (by rw [upd_other _ _ hj, upd_other _ _ hj, upd_other _ _ hjo])
 ·(repeat (((refine gM zM2B fun K1 hK1 => ?_; simp only [go_sem, ↓reduceIte, reduceCtorEq, nA, nB, nC, nD, nE, nF] <;> and_intros))))
  refine (g_flip i l a1 10 ⟨upd h.H o (some (.cells cs)), T1⟩ hl (by omega) (by omega)).mono ?_; rintro _ _ ⟨b, rfl, rfl⟩; apply hK1; clear hK1 K1
  (repeat ((refine gO rfl ?_)))
  refine awp_cond (t := _) rfl (fun hb => ?_) (fun hb => ?_)
  rotate_left
  ·(repeat ((refine gO rfl ?_)))
   exact ⟨cs, T1, a1 + 1, hcs.weaken.up (by omega), hT1, by omega, rfl⟩
  ·(repeat (((refine gM zM2B fun K1 hK1 => ?_; simp only [go_sem, ↓reduceIte, reduceCtorEq, nA, nB, nC, nD, nE, nF] <;> and_intros))))
   refine (g_inner i o l (a1 + 1) ⟨upd h.H o (some (.cells cs)), T1⟩ hl (fun k => h.T k = none) (d + 1) cs (by omega) hio (upd_same _ _ _) hcs).mono ?_
   rintro p _ ⟨cs2, e, a2, ha2, hp, hcs2, rfl⟩
   have o3 : OneV p := by rcases hp with ⟨rfl, _⟩ | ⟨q, css, j, _, _, _, rfl, _⟩ <;> exact ⟨rfl, rfl, rfl, rfl, rfl⟩
   obtain ⟨w1, w2, w3, w4, w5⟩ := o3
   unfold uside at w1; unfold unw at w2; unfold AV.noLoc at w3; unfold isOpt at w4; simp only [AV.cellsB, Value.oneCell'] at w5
   refine hK1 _ ?_; clear hK1 K1
   (repeat (first | refine gO rfl ?_ | ((refine gM zM2B fun K1 hK1 => ?_; simp only [go_sem, ↓reduceIte, reduceCtorEq, nA, nB, nC, nD, nE, nF, w1, w2, w3, w4, w5] <;> and_intros <;> first | (apply hK1; clear hK1 K1) | skip))))
   refine (g_next i l a2 7 ⟨upd h.H o (some (.cells cs)), T1⟩ hl (by omega) (by omega)).mono ?_; rintro _ _ ⟨x, hx, rfl, rfl⟩; apply hK1; clear hK1 K1
   obtain ⟨k, it, lo, mn, K, Sh, rfl⟩ : ∃ k it lo mn K Sh, cs2 = [k, it, lo, mn, K, Sh] := by
    cases e with
    | zero => exact hcs2.elim
    | succ e => obtain ⟨_, _, _, _, _, _, rfl, _⟩ := id hcs2; exact ⟨_, _, _, _, _, _, rfl⟩
   have hH : [k, it, lo, mn, K, Sh] = cs → ∀ b, (Hp.st ⟨upd h.H o (some (.cells cs)), T1⟩ i l b).H o = some (.cells [k, it, lo, mn, K, Sh]) := fun he b => by rw [he]; simp only [Hp.st, upd_other _ _ hio, upd_same]
   have hO : [k, it, lo, mn, K, Sh] = cs → OLd true T1 (fun k => h.T k = none) (d + 1) [k, it, lo, mn, K, Sh] := fun he => by rw [he]; exact hcs
   replace hcs2 : OLd true T1 (fun k => h.T k = none) e [k, it, lo, mn, K, Sh] := hcs2
   have hgs : ∀ (css : List (List AV)) (j : Nat), j < css.length → ∀ c, (css.set j c).getD j [] = c := fun css j hj c => by rw [List.getD_eq_getElem?_getD, List.getElem?_set_self hj]; rfl
   (repeat (first | refine gO rfl ?_ | ((refine gM zM2B fun K1 hK1 => ?_; simp only [go_sem, ↓reduceIte, reduceCtorEq, nA, nB, nC, nD, nE, nF] <;> and_intros <;> (apply hK1; clear hK1 K1)))))
   refine awp_cond (t := _) rfl (fun h5 => ?_) (fun h5 => ?_)
   ·rcases hp with ⟨rfl, he⟩ | ⟨q, css, j, hq, hTq, hj, rfl, hg⟩
    ·have hH := hH he
     (repeat (((refine gM zM2B fun K1 hK1 => ?_; simp only [go_sem, ↓reduceIte, reduceCtorEq, nA, nB, nC, nD, nE, nF, hH] <;> and_intros))))
     refine (g_odd i l (a2 + 1) 1 5 ⟨upd h.H o (some (.cells cs)), T1⟩ hl (by omega) (by omega) (by omega) (by omega)).mono ?_; rintro _ _ ⟨y, a3, hy, ha3, rfl, rfl⟩; apply hK1; clear hK1 K1
     (repeat (first | refine gO rfl ?_ | ((refine gM zM2B fun K1 hK1 => ?_; simp only [go_sem, ↓reduceIte, reduceCtorEq, nA, nB, nC, nD, nE, nF, hH] <;> and_intros <;> (apply hK1; clear hK1 K1)))))
     exact ⟨_, T1, a3, ((hO he).kind hy).weaken.up (by omega), hT1, by omega, st_mk3 rfl rfl (st_obj2 hio _ _ _ _ _ _)⟩
    ·replace hTq : T1 q = some (.cont 6 css) := hTq
     have hgs := hgs css j hj
     (repeat (((refine gM zM2B fun K1 hK1 => ?_; simp only [go_sem, ↓reduceIte, reduceCtorEq, nA, nB, nC, nD, nE, nF, hTq, st_T, hg, hgs] <;> and_intros))))
     refine (g_odd i l (a2 + 1) 1 5 ⟨upd h.H o (some (.cells cs)), T1⟩ hl (by omega) (by omega) (by omega) (by omega)).mono ?_; rintro _ _ ⟨y, a3, hy, ha3, rfl, rfl⟩; apply hK1; clear hK1 K1
     (repeat (first | refine gO rfl ?_ | ((refine gM zM2B fun K1 hK1 => ?_; simp only [go_sem, ↓reduceIte, reduceCtorEq, nA, nB, nC, nD, nE, nF, hTq, st_T, hg, hgs] <;> and_intros <;> first | (apply hK1; clear hK1 K1) | (intros; (omega))))))
     have hw : ∀ c', (∀ e, ∀ T' : Nat → Option TO, OLd false T' (fun k => h.T k = none) e [k, it, lo, mn, K, Sh] → OLd false T' (fun k => h.T k = none) e c') → OLd false (upd T1 q (some (.cont 6 (css.set j c')))) (fun k => h.T k = none) (d + 20) cs := fun c' hc => ((hcs.weaken.up (e := d + 20) (by omega)).write hTq (upd_same _ _ _) (fun k _ hk => upd_other _ _ hk) (fun e h' => by rw [hg] at h'; exact hc e _ h'))
     exact ⟨cs, _, a3, hw _ fun e T' h' => h'.kind hy, fun k hk => (upd_other _ _ (fun e => by subst e; exact hk hq)).trans (hT1 k hk), by omega, rfl⟩
   ·clear h5
    (repeat (first | refine gO rfl ?_ | ((refine gM zM2B fun K1 hK1 => ?_; simp only [go_sem, ↓reduceIte, reduceCtorEq, nA, nB, nC, nD, nE, nF] <;> and_intros <;> (apply hK1; clear hK1 K1)))))
    refine awp_cond (t := _) rfl (fun h5 => ?_) (fun h5 => ?_)
    ·
     rcases hp with ⟨rfl, he⟩ | ⟨q, css, j, hq, hTq, hj, rfl, hg⟩
     ·have hH := hH he
      (repeat (((refine gM zM2B fun K1 hK1 => ?_; simp only [go_sem, ↓reduceIte, reduceCtorEq, nA, nB, nC, nD, nE, nF, hH] <;> and_intros <;> first | (intros; (decide)) | skip))))
      refine (g_some i l (a2 + 1) [⟨#[]⟩, ⟨#[65]⟩, ⟨#[105, 97]⟩] none ⟨upd h.H o (some (.cells cs)), T1⟩ hl (by omega) (by simp)).mono ?_; rintro _ _ ⟨x1, hx1, rfl, rfl⟩; apply hK1; clear hK1 K1
      (repeat (((refine gM zM2B fun K1 hK1 => ?_; simp only [go_sem, ↓reduceIte, reduceCtorEq, nA, nB, nC, nD, nE, nF, hH] <;> and_intros))))
      refine (g_odd i l (a2 + 1 + 1) 1 3600000 ⟨upd h.H o (some (.cells cs)), T1⟩ hl (by omega) (by omega) (by omega) (by omega)).mono ?_; rintro _ _ ⟨y, a3, hy, ha3, rfl, rfl⟩; apply hK1; clear hK1 K1
      (repeat (first | refine gO rfl ?_ | ((refine gM zM2B fun K1 hK1 => ?_; simp only [go_sem, ↓reduceIte, reduceCtorEq, nA, nB, nC, nD, nE, nF, hH] <;> and_intros <;> (apply hK1; clear hK1 K1)))))
      exact ⟨_, T1, a3, ((hO he).il (by simp at hx1; rcases hx1 with rfl | rfl | rfl <;> decide) hy).weaken.up (by omega), hT1, by omega, st_mk3 rfl rfl (st_obj2 hio _ _ _ _ _ _)⟩
     ·replace hTq : T1 q = some (.cont 6 css) := hTq
      have hgs := hgs css j hj
      have hw : ∀ c', (∀ e, ∀ T' : Nat → Option TO, OLd false T' (fun k => h.T k = none) e [k, it, lo, mn, K, Sh] → OLd false T' (fun k => h.T k = none) e c') → OLd false (upd T1 q (some (.cont 6 (css.set j c')))) (fun k => h.T k = none) (d + 20) cs := fun c' hc => ((hcs.weaken.up (e := d + 20) (by omega)).write hTq (upd_same _ _ _) (fun k _ hk => upd_other _ _ hk) (fun e h' => by rw [hg] at h'; exact hc e _ h'))
      (repeat (((refine gM zM2B fun K1 hK1 => ?_; simp only [go_sem, ↓reduceIte, reduceCtorEq, nA, nB, nC, nD, nE, nF, hTq, st_T, hg, hgs, List.set_set] <;> and_intros <;> first | (intros; (decide)) | skip))))
      refine (g_some i l (a2 + 1) [⟨#[]⟩, ⟨#[65]⟩, ⟨#[105, 97]⟩] none ⟨upd h.H o (some (.cells cs)), T1⟩ hl (by omega) (by simp)).mono ?_; rintro _ _ ⟨x1, hx1, rfl, rfl⟩; apply hK1; clear hK1 K1
      (repeat (((refine gM zM2B fun K1 hK1 => ?_; simp only [go_sem, ↓reduceIte, reduceCtorEq, nA, nB, nC, nD, nE, nF, hTq, st_T, hg, hgs, List.set_set] <;> and_intros))))
      refine (g_odd i l (a2 + 1 + 1) 1 3600000 ⟨upd h.H o (some (.cells cs)), T1⟩ hl (by omega) (by omega) (by omega) (by omega)).mono ?_; rintro _ _ ⟨y, a3, hy, ha3, rfl, rfl⟩; apply hK1; clear hK1 K1
      (repeat (first | refine gO rfl ?_ | ((refine gM zM2B fun K1 hK1 => ?_; simp only [go_sem, ↓reduceIte, reduceCtorEq, nA, nB, nC, nD, nE, nF, hTq, st_T, hg, hgs, List.set_set] <;> and_intros <;> first | (apply hK1; clear hK1 K1) | (intros; (omega))))))
      exact ⟨cs, _, a3, hw _ fun e T' h' => h'.il (by simp at hx1; rcases hx1 with rfl | rfl | rfl <;> decide) hy, fun k hk => (upd_other _ _ (fun e => by subst e; exact hk hq)).trans (hT1 k hk), by omega, rfl⟩
    ·clear h5
     (repeat (first | refine gO rfl ?_ | ((refine gM zM2B fun K1 hK1 => ?_; simp only [go_sem, ↓reduceIte, reduceCtorEq, nA, nB, nC, nD, nE, nF] <;> and_intros <;> (apply hK1; clear hK1 K1)))))
     refine awp_cond (t := _) rfl (fun h5 => ?_) (fun h5 => ?_)
     ·
      rcases hp with ⟨rfl, he⟩ | ⟨q, css, j, hq, hTq, hj, rfl, hg⟩
      ·have hH := hH he
       (repeat (((refine gM zM2B fun K1 hK1 => ?_; simp only [go_sem, ↓reduceIte, reduceCtorEq, nA, nB, nC, nD, nE, nF, hH] <;> and_intros <;> first | (intros; (decide)) | skip))))
       refine (g_pick i l (a2 + 1) [0, 1, 100, 101] none ⟨upd h.H o (some (.cells cs)), T1⟩ hl (by omega) (by simp)).mono ?_; rintro _ _ ⟨y, hy, rfl, rfl⟩; apply hK1; clear hK1 K1
       (repeat (first | refine gO rfl ?_ | ((refine gM zM2B fun K1 hK1 => ?_; simp only [go_sem, ↓reduceIte, reduceCtorEq, nA, nB, nC, nD, nE, nF, hH] <;> and_intros <;> (apply hK1; clear hK1 K1)))))
       exact ⟨_, T1, a2 + 1 + 1, ((hO he).many (by simp at hy; unfold NB; omega)).weaken.up (by omega), hT1, by omega, st_mk3 rfl rfl (st_obj2 hio _ _ _ _ _ _)⟩
      ·replace hTq : T1 q = some (.cont 6 css) := hTq
       have hgs := hgs css j hj
       have hw : ∀ c', (∀ e, ∀ T' : Nat → Option TO, OLd false T' (fun k => h.T k = none) e [k, it, lo, mn, K, Sh] → OLd false T' (fun k => h.T k = none) e c') → OLd false (upd T1 q (some (.cont 6 (css.set j c')))) (fun k => h.T k = none) (d + 20) cs := fun c' hc => ((hcs.weaken.up (e := d + 20) (by omega)).write hTq (upd_same _ _ _) (fun k _ hk => upd_other _ _ hk) (fun e h' => by rw [hg] at h'; exact hc e _ h'))
       (repeat (((refine gM zM2B fun K1 hK1 => ?_; simp only [go_sem, ↓reduceIte, reduceCtorEq, nA, nB, nC, nD, nE, nF, hTq, st_T, hg, hgs, List.set_set] <;> and_intros <;> first | (intros; (decide)) | skip))))
       refine (g_pick i l (a2 + 1) [0, 1, 100, 101] none ⟨upd h.H o (some (.cells cs)), T1⟩ hl (by omega) (by simp)).mono ?_; rintro _ _ ⟨y, hy, rfl, rfl⟩; apply hK1; clear hK1 K1
       (repeat (first | refine gO rfl ?_ | ((refine gM zM2B fun K1 hK1 => ?_; simp only [go_sem, ↓reduceIte, reduceCtorEq, nA, nB, nC, nD, nE, nF, hTq, st_T, hg, hgs, List.set_set] <;> and_intros <;> first | (apply hK1; clear hK1 K1) | (intros; (omega))))))
       exact ⟨cs, _, a2 + 1 + 1, hw _ fun e T' h' => h'.many (by simp at hy; unfold NB; omega), fun k hk => (upd_other _ _ (fun e => by subst e; exact hk hq)).trans (hT1 k hk), by omega, rfl⟩
     ·clear h5
      (repeat (first | refine gO rfl ?_ | ((refine gM zM2B fun K1 hK1 => ?_; simp only [go_sem, ↓reduceIte, reduceCtorEq, nA, nB, nC, nD, nE, nF] <;> and_intros <;> (apply hK1; clear hK1 K1)))))
      refine awp_cond (t := _) rfl (fun h5 => ?_) (fun h5 => ?_)
      ·
       have hSh : Sh = .v (.slice none 0 0) ∨ ∃ (xs : List Int) (q2 : Nat), Sh = .row 1 (xs.map encI) (some q2) ∧ xs.length ≤ 4 ∧ (∀ x ∈ xs, NB x) ∧ T1 q2 = some (.tail xs.length) ∧ h.T q2 = none := by
        cases e with
        | zero => exact hcs2.elim
        | succ e =>
         obtain ⟨_, _, _, _, _, _, he, _, _, h5⟩ := id hcs2
         cases he
         rcases h5 with h5 | ⟨xs, q2, h5, _, h6, h7⟩
         ·exact .inl h5
         ·exact .inr ⟨xs, q2, h5, (h7 rfl).2.2, h6, (h7 rfl).2.1, (h7 rfl).1⟩
       have hny : ∀ y : Int, y ∈ ([1, 0] : List Int) → NB y := fun y hy => by simp at hy; unfold NB; omega
       have hkb : ∀ (q2 n : Nat), (∀ x, T1 q2 ≠ some (.cont 6 x)) → ∀ (d' : Nat) (c' : List AV), OLd true T1 (fun k => h.T k = none) d' c' → OLd false (upd T1 q2 (some (.tail n))) (fun k => h.T k = none) d' c' := fun q2 n hq2 d' c' h' => h'.weaken.keep (fun k _ ⟨x, hx⟩ => upd_other _ _ (fun e => by subst e; exact hq2 x hx)) (fun h => by cases h)
       rcases hp with ⟨rfl, he⟩ | ⟨q, css, j, hq, hTq, hj, rfl, hg⟩
       ·have hH := hH he
        have hO := hO he
        rcases hSh with rfl | ⟨xs, q2, rfl, hxl, hxb, hTq2, hSq2⟩
        ·(repeat (((first | refine gM zM2B ?_ | ((with_reducible refine xR ?_); refine uE 17 zM2B zPTE zPTP 83 rfl (by kernel_rfl) ?_)) <;> ((try with_reducible intro K1 hK1); simp only [go_sem, ↓reduceIte, reduceCtorEq, nA, nB, nC, nD, nE, nF, hH, st_T, encI] <;> and_intros <;> first | (apply hK1; clear hK1 K1) | (intros; (decide)) | skip))))
         refine (g_pick i l (a2 + 1) [1, 0] none ⟨upd h.H o (some (.cells cs)), T1⟩ hl (by omega) (by simp)).mono ?_; rintro _ _ ⟨y, hy, rfl, rfl⟩; apply hK1; clear hK1 K1
         (repeat (((first | refine gM zM2B ?_ | (with_reducible refine wM ?_ ?_)) <;> ((try with_reducible intro K1 hK1); simp only [go_sem, ↓reduceIte, reduceCtorEq, nA, nB, nC, nD, nE, nF, hH, st_T, encI] <;> and_intros <;> first | (apply hK1; clear hK1 K1) | (intros; first | decide | (simp_all <;> omega)) | skip))))
         intro q2 hq2
         refine hK1 _ ?_; clear hK1 K1
         (repeat (first | refine gO rfl ?_ | ((first | refine gM zM2B ?_ | (with_reducible refine wM ?_ ?_)) <;> ((try with_reducible intro K1 hK1); simp only [go_sem, ↓reduceIte, reduceCtorEq, nA, nB, nC, nD, nE, nF, hH, st_T, encI] <;> and_intros <;> (apply hK1; clear hK1 K1)))))
         have hq2' : h.T q2 = none := Classical.byContradiction fun hn => by have := hT1 q2 hn; rw [show T1 q2 = none from hq2] at this; exact hn this.symm
         exact ⟨_, upd T1 q2 (some (.tail 1)), a2 + 1 + 1, ((hkb q2 1 (fun x hx => by rw [show T1 q2 = none from hq2] at hx; cases hx) _ _ hO).share (xs := [y]) (q := q2) (by simp) (fun z hz => by simp at hz; subst hz; exact hny _ hy)).up (by omega), fun k hk => (upd_other _ _ (fun e => by subst e; exact hk hq2')).trans (hT1 k hk), by omega, st_mk3 rfl rfl (st_obj2 hio _ _ _ _ _ _)⟩
        ·(repeat (((first | refine gM zM2B ?_ | ((with_reducible refine xR ?_); refine uE 17 zM2B zPTE zPTP 83 rfl (by kernel_rfl) ?_)) <;> ((try with_reducible intro K1 hK1); simp only [go_sem, ↓reduceIte, reduceCtorEq, nA, nB, nC, nD, nE, nF, hH, st_T, hTq2] <;> and_intros <;> first | (apply hK1; clear hK1 K1) | (intros; (decide)) | skip))))
         refine (g_pick i l (a2 + 1) [1, 0] none ⟨upd h.H o (some (.cells cs)), T1⟩ hl (by omega) (by simp)).mono ?_; rintro _ _ ⟨y, hy, rfl, rfl⟩; apply hK1; clear hK1 K1
         (repeat (first | refine gO rfl ?_ | ((first | refine gM zM2B ?_ | (with_reducible refine wM ?_ ?_)) <;> ((try with_reducible intro K1 hK1); simp only [go_sem, ↓reduceIte, reduceCtorEq, nA, nB, nC, nD, nE, nF, hH, st_T, hTq2] <;> and_intros <;> first | (apply hK1; clear hK1 K1) | (intros; first | omega | decide | (simp_all <;> omega))))))
         have hme : xs.map encI ++ [[AV.v (.int .i64 y)]] = (xs ++ [y]).map encI := by simp [encI]
         rw [hme]
         exact ⟨_, upd T1 q2 (some (.tail (xs.length + 1))), a2 + 1 + 1, ((hkb q2 (xs.length + 1) (fun x hx => by rw [hTq2] at hx; cases hx) _ _ hO).share (xs := xs ++ [y]) (q := q2) (by simp; omega) (fun z hz => by rcases List.mem_append.1 hz with hz | hz; exact hxb z hz; simp at hz; subst hz; exact hny _ hy)).up (by omega), fun k hk => (upd_other _ _ (fun e => by subst e; exact hk hSq2)).trans (hT1 k hk), by omega, st_mk3 rfl rfl (st_obj2 hio _ _ _ _ _ _)⟩
       ·replace hTq : T1 q = some (.cont 6 css) := hTq
        have hgs := hgs css j hj
        rcases hSh with rfl | ⟨xs, q2, rfl, hxl, hxb, hTq2, hSq2⟩
        ·(repeat (((first | refine gM zM2B ?_ | ((with_reducible refine xR ?_); refine uE 17 zM2B zPTE zPTP 83 rfl (by kernel_rfl) ?_)) <;> ((try with_reducible intro K1 hK1); simp only [go_sem, ↓reduceIte, reduceCtorEq, nA, nB, nC, nD, nE, nF, hTq, st_T, hg, hgs, encI] <;> and_intros <;> first | (apply hK1; clear hK1 K1) | (intros; (decide)) | skip))))
         refine (g_pick i l (a2 + 1) [1, 0] none ⟨upd h.H o (some (.cells cs)), T1⟩ hl (by omega) (by simp)).mono ?_; rintro _ _ ⟨y, hy, rfl, rfl⟩; apply hK1; clear hK1 K1
         (repeat (((first | refine gM zM2B ?_ | (with_reducible refine wM ?_ ?_)) <;> ((try with_reducible intro K1 hK1); simp only [go_sem, ↓reduceIte, reduceCtorEq, nA, nB, nC, nD, nE, nF, hTq, st_T, hg, hgs, encI] <;> and_intros <;> first | (apply hK1; clear hK1 K1) | (intros; first | decide | (simp_all <;> omega)) | skip))))
         intro q2 hq2
         refine hK1 _ ?_; clear hK1 K1
         replace hq2 : T1 q2 = none := hq2
         have hqq : q ≠ q2 := fun e => by subst e; rw [hTq] at hq2; cases hq2
         have hTa : ∀ x, upd T1 q2 x q = some (.cont 6 css) := fun x => (upd_other _ _ hqq).trans hTq
         (repeat (first | refine gO rfl ?_ | ((first | refine gM zM2B ?_ | (with_reducible refine wM ?_ ?_)) <;> ((try with_reducible intro K1 hK1); simp only [go_sem, ↓reduceIte, reduceCtorEq, nA, nB, nC, nD, nE, nF, hTa, st_T, hg, hgs, encI] <;> and_intros <;> first | (apply hK1; clear hK1 K1) | (intros; (omega))))))
         have hq2' : h.T q2 = none := Classical.byContradiction fun hn => by have := hT1 q2 hn; rw [hq2] at this; exact hn this.symm
         have hw : ∀ c', (∀ e, ∀ T' : Nat → Option TO, OLd false T' (fun k => h.T k = none) e [k, it, lo, mn, K, AV.v (.slice none 0 0)] → OLd false T' (fun k => h.T k = none) e c') → OLd false (upd (upd T1 q2 (some (.tail 1))) q (some (.cont 6 (css.set j c')))) (fun k => h.T k = none) (d + 20) cs := fun c' hc => (((hkb q2 1 (fun x hx => by rw [hq2] at hx; cases hx) _ _ hcs).up (e := d + 20) (by omega)).write (hTa _) (upd_same _ _ _) (fun k _ hk => upd_other _ _ hk) (fun e h' => by rw [hg] at h'; exact hc e _ h'))
         exact ⟨cs, _, a2 + 1 + 1, hw _ fun e T' h' => h'.share (xs := [y]) (q := q2) (by simp) (fun z hz => by simp at hz; subst hz; exact hny _ hy), fun k hk => ((upd_other _ _ (fun e => by subst e; exact hk hq)).trans (upd_other _ _ (fun e => by subst e; exact hk hq2'))).trans (hT1 k hk), by omega, rfl⟩
        ·have hqq : q ≠ q2 := fun e => by subst e; rw [hTq] at hTq2; cases hTq2
         have hTa : ∀ x, upd T1 q2 x q = some (.cont 6 css) := fun x => (upd_other _ _ hqq).trans hTq
         (repeat (((first | refine gM zM2B ?_ | ((with_reducible refine xR ?_); refine uE 17 zM2B zPTE zPTP 83 rfl (by kernel_rfl) ?_)) <;> ((try with_reducible intro K1 hK1); simp only [go_sem, ↓reduceIte, reduceCtorEq, nA, nB, nC, nD, nE, nF, hTq, hTa, st_T, hg, hgs, hTq2] <;> and_intros <;> first | (apply hK1; clear hK1 K1) | (intros; (decide)) | skip))))
         refine (g_pick i l (a2 + 1) [1, 0] none ⟨upd h.H o (some (.cells cs)), T1⟩ hl (by omega) (by simp)).mono ?_; rintro _ _ ⟨y, hy, rfl, rfl⟩; apply hK1; clear hK1 K1
         (repeat (first | refine gO rfl ?_ | ((first | refine gM zM2B ?_ | (with_reducible refine wM ?_ ?_)) <;> ((try with_reducible intro K1 hK1); simp only [go_sem, ↓reduceIte, reduceCtorEq, nA, nB, nC, nD, nE, nF, hTq, hTa, st_T, hg, hgs, hTq2] <;> and_intros <;> first | (apply hK1; clear hK1 K1) | (intros; first | omega | decide | (simp_all <;> omega))))))
         have hw : ∀ c', (∀ e, ∀ T' : Nat → Option TO, OLd false T' (fun k => h.T k = none) e [k, it, lo, mn, K, AV.row 1 (xs.map encI) (some q2)] → OLd false T' (fun k => h.T k = none) e c') → OLd false (upd (upd T1 q2 (some (.tail (xs.length + 1)))) q (some (.cont 6 (css.set j c')))) (fun k => h.T k = none) (d + 20) cs := fun c' hc => (((hkb q2 (xs.length + 1) (fun x hx => by rw [hTq2] at hx; cases hx) _ _ hcs).up (e := d + 20) (by omega)).write (hTa _) (upd_same _ _ _) (fun k _ hk => upd_other _ _ hk) (fun e h' => by rw [hg] at h'; exact hc e _ h'))
         have hme : xs.map encI ++ [[AV.v (.int .i64 y)]] = (xs ++ [y]).map encI := by simp [encI]
         rw [hme]
         exact ⟨cs, _, a2 + 1 + 1, hw _ fun e T' h' => h'.share (xs := xs ++ [y]) (q := q2) (by simp; omega) (fun z hz => by rcases List.mem_append.1 hz with hz | hz; exact hxb z hz; simp at hz; subst hz; exact hny _ hy), fun k hk => ((upd_other _ _ (fun e => by subst e; exact hk hq)).trans (upd_other _ _ (fun e => by subst e; exact hk hSq2))).trans (hT1 k hk), by omega, rfl⟩
      ·clear h5
       (repeat (first | refine gO rfl ?_ | ((refine gM zM2B fun K1 hK1 => ?_; simp only [go_sem, ↓reduceIte, reduceCtorEq, nA, nB, nC, nD, nE, nF] <;> and_intros <;> (apply hK1; clear hK1 K1)))))
       refine awp_cond (t := _) rfl (fun h5 => ?_) (fun h5 => ?_)
       ·
        rcases hp with ⟨rfl, he⟩ | ⟨q, css, j, hq, hTq, hj, rfl, hg⟩
        ·have hH := hH he
         (repeat (first | refine gO rfl ?_ | ((refine gM zM2B fun K1 hK1 => ?_; simp only [go_sem, ↓reduceIte, reduceCtorEq, nA, nB, nC, nD, nE, nF, hH] <;> and_intros <;> (apply hK1; clear hK1 K1)))))
         exact ⟨_, T1, a2 + 1, ((hO he).nokids).weaken.up (by omega), hT1, by omega, st_mk3 rfl rfl (st_obj2 hio _ _ _ _ _ _)⟩
        ·replace hTq : T1 q = some (.cont 6 css) := hTq
         have hgs := hgs css j hj
         have hw : ∀ c', (∀ e, ∀ T' : Nat → Option TO, OLd false T' (fun k => h.T k = none) e [k, it, lo, mn, K, Sh] → OLd false T' (fun k => h.T k = none) e c') → OLd false (upd T1 q (some (.cont 6 (css.set j c')))) (fun k => h.T k = none) (d + 20) cs := fun c' hc => ((hcs.weaken.up (e := d + 20) (by omega)).write hTq (upd_same _ _ _) (fun k _ hk => upd_other _ _ hk) (fun e h' => by rw [hg] at h'; exact hc e _ h'))
         (repeat (first | refine gO rfl ?_ | ((refine gM zM2B fun K1 hK1 => ?_; simp only [go_sem, ↓reduceIte, reduceCtorEq, nA, nB, nC, nD, nE, nF, hTq, st_T, hg, hgs, List.set_set] <;> and_intros <;> first | (apply hK1; clear hK1 K1) | (intros; (omega))))))
         exact ⟨cs, _, a2 + 1, hw _ fun e T' h' => h'.nokids, fun k hk => (upd_other _ _ (fun e => by subst e; exact hk hq)).trans (hT1 k hk), by omega, rfl⟩
       ·clear h5
        (repeat (first | refine gO rfl ?_ | ((refine gM zM2B fun K1 hK1 => ?_; simp only [go_sem, ↓reduceIte, reduceCtorEq, nA, nB, nC, nD, nE, nF] <;> and_intros <;> (apply hK1; clear hK1 K1)))))
        refine awp_cond (t := _) rfl (fun h5 => ?_) (fun h5 => ?_)
        ·
         (repeat (first | refine gO rfl ?_ | ((refine gM zM2B fun K1 hK1 => ?_; simp only [go_sem, ↓reduceIte, reduceCtorEq, nA, nB, nC, nD, nE, nF] <;> and_intros <;> (apply hK1; clear hK1 K1)))))
         refine awp_loopC (rl false [0, 1, 3, 2, 69, 1, 7]) 1 (fun g s => ∃ (j : Nat) (cs' : List AV), g + j = 12 ∧ OLd false T1 (fun k => h.T k = none) (d + 1 + j) cs' ∧
          s = ⟨((.ptr i 0) :: (jnk 3 ((.loc 0 0) :: (.ptr o 0) :: (jnk 69 ((.v (.int .i64 j)) :: (jnk 7 [])))))), [[.v (.int .i64 0), .v (.string { data := #[] }), .v (.int .i64 0), .v (.int .i64 0), .v (.slice none 0 0), .v (.slice none 0 0)]], Hp.st ⟨upd h.H o (some (.cells cs')), T1⟩ i l (a2 + 1)⟩) 12 ⟨0, cs, by omega, hcs.weaken, rfl⟩ ?_
         rintro n _ ⟨j, cs', hnj, hcs', rfl⟩
         have hH : (Hp.st ⟨upd h.H o (some (.cells cs')), T1⟩ i l (a2 + 1)).H o = some (.cells cs') := by simp only [Hp.st, upd_other _ _ hio, upd_same]
         have hl6 := hcs'.len
         have htk6 : List.take 6 cs' = cs' := List.take_of_length_le (Nat.le_of_eq hl6)
         have hdr6 : List.drop 6 cs' = [] := List.drop_of_length_le (Nat.le_of_eq hl6)
         (repeat (first | refine gO rfl ?_ | ((refine gM zM2B fun K1 hK1 => ?_; simp only [go_sem, ↓reduceIte, reduceCtorEq, nA, nB, nC, nD, nE, nF, hH, hl6, htk6, hdr6] <;> and_intros <;> (apply hK1; clear hK1 K1)))))
         refine awp_cond (t := _) rfl (fun h6 => ?_) (fun h6 => ?_)
         ·simp only [decide_eq_true_eq] at h6
          (repeat (first | refine gO rfl ?_ | ((refine gM zM2B fun K1 hK1 => ?_; simp only [go_sem, ↓reduceIte, reduceCtorEq, nA, nB, nC, nD, nE, nF, hH, hl6, htk6, hdr6] <;> and_intros <;> first | (apply hK1; clear hK1 K1) | (intros; first | omega | decide)))))
          exact ⟨n - 1, by omega, j + 1, _, by omega, hcs'.wrap (by unfold NB; omega) (by unfold NB; omega), st_mk3 rfl rfl (st_obj2 hio _ _ _ _ _ _)⟩
         ·simp only [decide_eq_false_iff_not] at h6
          (repeat ((refine gO rfl ?_)))
          exact ⟨cs', T1, a2 + 1, hcs'.up (by omega), hT1, by omega, rfl⟩
        ·clear h5
         (repeat (first | refine gO rfl ?_ | ((refine gM zM2B fun K1 hK1 => ?_; simp only [go_sem, ↓reduceIte, reduceCtorEq, nA, nB, nC, nD, nE, nF] <;> and_intros <;> (apply hK1; clear hK1 K1)))))
         refine awp_loopC (rl false [0, 1, 3, 2, 13, 1, 63]) 1 (fun g s => ∃ (j : Nat) (cs' : List AV), g + j = 3 ∧ OLd false T1 (fun k => h.T k = none) (d + 1 + j) cs' ∧
          s = ⟨((.ptr i 0) :: (jnk 3 ((.loc 0 0) :: (.ptr o 0) :: (jnk 13 ((.v (.int .i64 j)) :: (jnk 63 [])))))), [[.v (.int .i64 0), .v (.string { data := #[] }), .v (.int .i64 0), .v (.int .i64 0), .v (.slice none 0 0), .v (.slice none 0 0)]], Hp.st ⟨upd h.H o (some (.cells cs')), T1⟩ i l (a2 + 1)⟩) 3 ⟨0, cs, by omega, hcs.weaken, rfl⟩ ?_
         rintro n _ ⟨j, cs', hnj, hcs', rfl⟩
         have hH : (Hp.st ⟨upd h.H o (some (.cells cs')), T1⟩ i l (a2 + 1)).H o = some (.cells cs') := by simp only [Hp.st, upd_other _ _ hio, upd_same]
         have hl6 := hcs'.len
         have htk6 : List.take 6 cs' = cs' := List.take_of_length_le (Nat.le_of_eq hl6)
         have hdr6 : List.drop 6 cs' = [] := List.drop_of_length_le (Nat.le_of_eq hl6)
         (repeat (first | refine gO rfl ?_ | ((refine gM zM2B fun K1 hK1 => ?_; simp only [go_sem, ↓reduceIte, reduceCtorEq, nA, nB, nC, nD, nE, nF, hH, hl6, htk6, hdr6] <;> and_intros <;> (apply hK1; clear hK1 K1)))))
         refine awp_cond (t := _) rfl (fun h6 => ?_) (fun h6 => ?_)
         ·simp only [decide_eq_true_eq] at h6
          (repeat (first | refine gO rfl ?_ | ((refine gM zM2B fun K1 hK1 => ?_; simp only [go_sem, ↓reduceIte, reduceCtorEq, nA, nB, nC, nD, nE, nF, hH, hl6, htk6, hdr6] <;> and_intros <;> first | (apply hK1; clear hK1 K1) | (intros; first | omega | decide)))))
          exact ⟨n - 1, by omega, j + 1, _, by omega, hcs'.wrap (by unfold NB; omega) (by unfold NB; omega), st_mk3 rfl rfl (st_obj2 hio _ _ _ _ _ _)⟩
         ·simp only [decide_eq_false_iff_not] at h6
          (repeat ((refine gO rfl ?_)))
          exact ⟨cs', T1, a2 + 1, hcs'.up (by omega), hT1, by omega, rfl⟩
theorem g_Loop (d : Nat) (deep : Int) (hd : deep ≤ d ∧ -10 ≤ deep ∧ d ≤ 100) (i : Nat) (l : List Int) (a : Int) (h : Hp) (hl : SOk l) (ha : 0 ≤ a ∧ a + costR d + 2 * d + 40 ≤ 900000000) :
  ACalls Tryz.prog 8 [.ptr i 0, .v (.int .i64 deep)] (h.st i l a) (fun r h' => ∃ t a', LC (d + 20) t ∧ (a ≤ a' ∧ a' ≤ a + costR d + 2 * d + 40) ∧ r = .agg (encL t) ∧ h' = h.st i l a') := by
 refine (g_Loop0 d deep hd i l a h hl ha).gup ?_
 rintro _ _ G w v ⟨cs, T', a', hcs, hT', ha', rfl, rfl⟩ hs hr
 obtain ⟨G', hle, hfr, hs2, hf⟩ := hs.freeze (h2 := h.st i l a') (fun k => h.T k = none) rfl (fun k hk => hk) (fun k hk => (hT' k hk).symm)
 obtain ⟨t, ht, hrep⟩ := OLd.freeze hle hf _ _ hcs
 obtain ⟨vs, rfl, hvs⟩ := RepL.of_agg hr
 exact ⟨_, _, G', ⟨t, a', ht, ha', rfl, rfl⟩, hle, hfr, hs2, (hrep _ hvs).agg⟩
open Go Go.RowKit
set_option linter.unusedVariables false
set_option linter.unusedSimpArgs false
def ARow (w : World) (a : Option Addr) (len cap : Nat) (zs : List Int) : Prop :=
 (a = none ∧ len = 0 ∧ cap = 0 ∧ zs = []) ∨ ∃ b : Addr, a = some b ∧ len ≤ cap ∧ cap ≤ maxLen ∧ zs.length = cap ∧ (∀ i, i < zs.length → w.cell? (b.add i) = some (.int .i64 (zs.getD i 0)) ∧ w.frozen? (b.add i) = false) ∧ (∀ n ∈ zs, (Lit.int .i64 n).wf = true)
def G0 (w : World) : Gh := ⟨fun g o => cellT w g o, fun _ => none, fun _ => none, 0⟩
def H0 : Hp := ⟨fun _ => none, fun _ => none⟩
theorem hsim_all (w : World) : HSim (G0 w) H0 w where
 val _ _ _ h := h
 obj _ _ h := by cases h
 inj _ _ _ h := absurd rfl h
 tok _ _ h := by cases h
 tinj _ _ _ _ h := absurd rfl h
 tobj _ _ _ h := absurd rfl h
 fat _ _ := rfl
 ftl _ _ := rfl
theorem below_of_fr {G G' : Gh} {h' : Hp} {w w' : World} (f : Fr G H0 w G' h' w') : Below w.heap.size w w' :=
 ⟨f.os, f.tape, f.output, f.size, fun b hb => (f.keep b hb (fun o => by rcases o with ⟨_, h, _⟩ | ⟨_, _, h, _⟩ <;> exact h rfl)).1⟩
theorem rep_v_inv0 {G : Gh} {x y : Value} (h : Rep G (.v x) y) : y = x := by cases h; rfl
theorem flat_encI (l : List Int) : (l.map encI).flatten = l.map fun x => AV.v (.int .i64 x) := by
 induction l with
 | nil => rfl
 | cons x q ih => simp [encI, ih]
theorem arow_rep {w : World} {a : Option Addr} {len cap : Nat} {zs : List Int} (h : ARow w a len cap zs) : ∃ l : List Int, SOk l ∧ Rep (G0 w) (.row 1 (l.map encI) none) (.slice a len cap) := by
 rcases h with ⟨rfl, rfl, rfl, _⟩ | ⟨⟨b, o, sp⟩, rfl, hl, hm, hz, hc, hwz⟩
 ·exact ⟨[], ⟨by simp, by simp⟩, .nil 1 none trivial⟩
 ·by_cases h0 : cap = 0
  ·subst h0
   obtain rfl : len = 0 := by omega
   exact ⟨[], ⟨by simp, by simp⟩, .nilA 1 _⟩
  ·have hsp : sp = none := by
    have h1 := (hc 0 (by omega)).1
    rw [show (⟨b, o, sp⟩ : Addr).add 0 = ⟨b, o, sp⟩ from rfl] at h1
    cases sp with
    | none => rfl
    | some s =>
     simp only [World.cell?] at h1
     split at h1 <;> simp at h1
   subst hsp
   refine ⟨zs.take len, ⟨by have hm2 : maxLen = 9223372036854775807 := rfl; rw [List.length_take]; omega, fun x hx => ?_⟩, ?_⟩
   ·have h1 := hwz x (List.mem_of_mem_take hx)
    simp only [Lit.wf, Bool.and_eq_true, decide_eq_true_eq] at h1
    exact ⟨h1.1, h1.2⟩
   ·have hlen : (zs.take len).length = len := by simp; omega
    have h2 := Rep.row_mk (G := G0 w) (z := 1) (xs := (zs.take len).map encI) (g := b) (o := o) (c := cap) (us := (zs.take len).map fun x => Value.int .i64 x) (by rw [List.length_map, hlen]; exact hl)
     (fun y hy => by obtain ⟨x, _, rfl⟩ := List.mem_map.1 hy; rfl) (by
      rw [flat_encI]
      refine ⟨by simp, fun j a b => ?_⟩
      simp only [List.getElem_map]
      exact ⟨.v _ rfl, rfl⟩) (fun j y hy => by
      rw [List.getElem?_map] at hy
      obtain ⟨x, hx, rfl⟩ := Option.map_eq_some_iff.1 hy
      rw [List.getElem?_take] at hx
      split at hx
      ·have hjl := (List.getElem?_eq_some_iff.1 hx).1
       have h3 := hc j hjl
       rw [List.getD_eq_getElem?_getD, hx, Addr.add_lit] at h3
       show cellT w b (o + j) = _
       rw [cellT, h3.2]; exact h3.1
      ·cases hx)
    rwa [List.length_map, hlen] at h2
theorem law_calls {f : Nat} (hlaw : ∀ (l : List Int) (h : Hp), SOk l → ACalls Tryz.prog f [.row 1 (l.map encI) none] h (fun r _ => r = .v (.bool true))) (a : Option Addr) (len cap : Nat) (zs : List Int) (w : World) (h : ARow w a len cap zs) :
  Calls Tryz.prog f #[.slice a len cap] w fun e w' => e = .returned (.bool true) ∧ Below w.heap.size w w' := by
 obtain ⟨l, hl, hrep⟩ := arow_rep h
 refine ((hlaw l H0 hl).calls _ w #[.slice a len cap] (hsim_all w) rfl (fun j hj => ?_)).mono ?_
 ·simp only [List.length_cons, List.length_nil, Nat.zero_add, Nat.lt_one_iff] at hj
  subst hj
  exact hrep
 ·rintro _ w' ⟨r, h', G', v, rfl, rfl, _, f, _, hv⟩
  exact ⟨by rw [rep_v_inv0 hv], below_of_fr f⟩
open Go
open Nat renaming reduceAdd → nA, reduceSub → nB, reduceMul → nC, reduceLT → nD, reduceLeDiff → nE, reduceEqDiff → nF, reduceMod → nG, reduceDiv → nH, reducePow → nI
set_option maxRecDepth 100000
set_option maxHeartbeats 8000000
abbrev Wn := ByteArray × Int × Int
def encW (x : Wn) : List AV := [.v (.string x.1), .v (.int .i64 x.2.1), .v (.int .i64 x.2.2)]
def WOk (x : Wn) : Prop := x.1.size ≤ 2 ∧ (-5000000000000000 ≤ x.2.1 ∧ x.2.1 ≤ 5000000000000000) ∧ (-5000000000000000 ≤ x.2.2 ∧ x.2.2 ≤ 5000000000000000)
theorem encW_z (ws : List Wn) : ∀ y ∈ ws.map encW, y.length = 3 := fun y hy => by obtain ⟨x, _, rfl⟩ := List.mem_map.1 hy; rfl
def preL (xs : List (ByteArray × Int)) (i : Nat) : Int := ((xs.map (·.2)).take i).sum
def sumL (xs : List (ByteArray × Int)) : Int := (xs.map (·.2)).sum
def Pos (xs : List (ByteArray × Int)) : Prop := ∀ x ∈ xs, 1 ≤ x.2 ∧ x.2 ≤ 3600000
def posF : List (ByteArray × Int) → Int → Nat
 | [], _ => 0
 | x :: xs, r => if r < x.2 then 0 else posF xs (r - x.2) + 1
theorem preL_zero (xs : List (ByteArray × Int)) : preL xs 0 = 0 := rfl
theorem preL_cons (x : ByteArray × Int) (xs : List (ByteArray × Int)) (i : Nat) : preL (x :: xs) (i + 1) = x.2 + preL xs i := by simp [preL]
theorem preL_all (xs : List (ByteArray × Int)) : preL xs xs.length = sumL xs := by
 rw [preL, List.take_of_length_le (by simp)]; rfl
theorem preL_succ : ∀ (xs : List (ByteArray × Int)) (i : Nat), i < xs.length → preL xs (i + 1) = preL xs i + (xs.getD i default).2
 | [], _, h => by simp at h
 | x :: xs, 0, _ => by simp [preL]
 | x :: xs, i + 1, h => by rw [preL_cons, preL_cons, preL_succ xs i (by simpa using h)]; simp; omega
theorem pos_at {xs : List (ByteArray × Int)} (h : Pos xs) {i : Nat} (hi : i < xs.length) : 1 ≤ (xs.getD i default).2 ∧ (xs.getD i default).2 ≤ 3600000 := by
 have : xs.getD i default ∈ xs := by rw [List.getD_eq_getElem?_getD, List.getElem?_eq_getElem hi]; exact List.getElem_mem hi
 exact h _ this
theorem preL_nonneg {xs : List (ByteArray × Int)} (h : Pos xs) : ∀ i, 0 ≤ preL xs i := by
 induction xs with
 | nil => intro i; simp [preL]
 | cons x xs ih =>
  intro i
  cases i with
  | zero => simp [preL]
  | succ i =>
   rw [preL_cons]
   have := h x (by simp); have := ih (fun y hy => h y (by simp [hy])) i; omega
theorem preL_bd {xs : List (ByteArray × Int)} (h : Pos xs) (i : Nat) (hi : i ≤ xs.length) : 0 ≤ preL xs i ∧ preL xs i ≤ i * 3600000 := by
 induction i with
 | zero => simp [preL]
 | succ i ih =>
  have := ih (by omega)
  have := pos_at h (i := i) (by omega)
  rw [preL_succ xs i (by omega)]
  omega
theorem preL_mono {xs : List (ByteArray × Int)} (h : Pos xs) {i j : Nat} (hij : i ≤ j) (hj : j ≤ xs.length) : preL xs i ≤ preL xs j := by
 induction j with
 | zero =>
  obtain rfl : i = 0 := by omega
  exact Int.le_refl _
 | succ j ih =>
  by_cases e : i = j + 1
  ·rw [e]; exact Int.le_refl _
  ·have := ih (by omega) (by omega)
   have := pos_at h (i := j) (by omega)
   rw [preL_succ xs j (by omega)]; omega
theorem sumL_bd {xs : List (ByteArray × Int)} (h : Pos xs) : 0 ≤ sumL xs ∧ sumL xs ≤ xs.length * 3600000 := by
 rw [← preL_all]; exact preL_bd h _ (Nat.le_refl _)
theorem sumL_pos {xs : List (ByteArray × Int)} (h : Pos xs) (hn : xs ≠ []) : 1 ≤ sumL xs := by
 have hl := List.length_pos_iff.2 hn
 have h1 := preL_mono h (i := 1) (j := xs.length) (by omega) (Nat.le_refl _)
 rw [preL_all, preL_succ xs 0 hl, preL_zero] at h1
 have := pos_at h hl
 omega
theorem posF_of {xs : List (ByteArray × Int)} (h : Pos xs) : ∀ {i : Nat} {r : Int}, i < xs.length → preL xs i ≤ r → r < preL xs (i + 1) → posF xs r = i := by
 induction xs with
 | nil => intro i r hi; simp at hi
 | cons x xs ih =>
  intro i r hi h1 h2
  have hp : Pos xs := fun y hy => h y (by simp [hy])
  rw [preL_cons] at h2
  rw [posF]
  cases i with
  | zero => rw [preL_zero] at h2; rw [if_pos (by omega)]
  | succ i =>
   rw [preL_cons] at h1
   have := preL_nonneg hp i
   rw [if_neg (by omega), ih hp (i := i) (by simpa using hi) (by omega) (by omega)]
theorem posF_ex {xs : List (ByteArray × Int)} (h : Pos xs) : ∀ {r : Int}, 0 ≤ r → r < sumL xs → posF xs r < xs.length ∧ preL xs (posF xs r) ≤ r ∧ r < preL xs (posF xs r + 1) := by
 induction xs with
 | nil => intro r h0 h1; simp [sumL] at h1; omega
 | cons x xs ih =>
  intro r h0 h1
  have hp : Pos xs := fun y hy => h y (by simp [hy])
  rw [posF]
  split
  ·rename_i hlt
   refine ⟨by simp, by rw [preL_zero]; exact h0, by rw [preL_cons, preL_zero]; omega⟩
  ·rename_i hge
   obtain ⟨q1, q2, q3⟩ := ih hp (r := r - x.2) (by omega) (by simp only [sumL, List.map_cons, List.sum_cons] at h1 ⊢; omega)
   refine ⟨by simpa using q1, by rw [preL_cons]; omega, by rw [preL_cons]; omega⟩
open Go Go.Lib
def onceL (l : List (List UInt8)) : List (List UInt8) := compact (l.mergeSort fun x y => decide (x ≤ y))
def onceS (l : List ByteArray) : List ByteArray := (onceL (l.map (·.data.toList))).map fun l => ⟨l.toArray⟩
theorem leT : ∀ a b c : List UInt8, decide (a ≤ b) = true → decide (b ≤ c) = true → decide (a ≤ c) = true := fun a b c h1 h2 => by
 simp only [decide_eq_true_eq] at *; exact List.le_trans h1 h2
theorem leO : ∀ a b : List UInt8, (decide (a ≤ b) || decide (b ≤ a)) = true := fun a b => by
 simp only [Bool.or_eq_true, decide_eq_true_eq]; exact List.le_total a b
theorem comp_up (d : Array (List UInt8)) (hs : ∀ i j, i ≤ j → j < d.size → d[i]! ≤ d[j]!) : ∀ m, m ≤ d.size →
  (compactUpTo d m).Pairwise (fun x y => x ≤ y ∧ x ≠ y) ∧ ∀ x, x ∈ compactUpTo d m ↔ ∃ j, j < m ∧ d[j]! = x
 | 0, _ => ⟨by simp [compactUpTo], by simp [compactUpTo]⟩
 | m + 1, hm => by
  obtain ⟨h1, h2⟩ := comp_up d hs m (by omega)
  rw [compactUpTo_succ]
  cases hk : keeps d m with
  | true =>
   simp only [if_true]
   refine ⟨List.pairwise_append.2 ⟨h1, by simp, fun x hx y hy => ?_⟩, fun x => ?_⟩
   ·simp only [List.mem_singleton] at hy
    subst hy
    obtain ⟨j, hj, rfl⟩ := (h2 x).1 hx
    refine ⟨hs j m (by omega) (by omega), fun e => ?_⟩
    simp only [keeps, decide_eq_true_eq] at hk
    rcases hk with hk | hk
    ·omega
    ·have a1 := hs j (m - 1) (by omega) (by omega)
     have a2 := hs (m - 1) m (by omega) (by omega)
     rw [e] at a1
     exact hk (List.le_antisymm a1 a2)
   ·rw [List.mem_append, h2 x, List.mem_singleton]
    constructor
    ·rintro (⟨j, hj, e⟩ | rfl)
     ·exact ⟨j, by omega, e⟩
     ·exact ⟨m, by omega, rfl⟩
    ·rintro ⟨j, hj, e⟩
     by_cases hjm : j = m
     ·subst hjm; exact .inr e.symm
     ·exact .inl ⟨j, by omega, e⟩
  | false =>
   simp only [Bool.false_eq_true, if_false, List.append_nil]
   refine ⟨h1, fun x => ?_⟩
   rw [h2 x]
   simp only [keeps, decide_eq_false_iff_not, not_or, ne_eq, Decidable.not_not] at hk
   constructor
   ·rintro ⟨j, hj, e⟩; exact ⟨j, by omega, e⟩
   ·rintro ⟨j, hj, e⟩
    by_cases hjm : j = m
    ·subst hjm; exact ⟨j - 1, by omega, by rw [← e, hk.2]⟩
    ·exact ⟨j, by omega, e⟩
theorem onceL_ok (l : List (List UInt8)) : (onceL l).Pairwise (fun x y => x ≤ y ∧ x ≠ y) ∧ ∀ x, x ∈ onceL l ↔ x ∈ l := by
 have hp := List.pairwise_mergeSort leT leO l
 have hm := List.mergeSort_perm l fun x y => decide (x ≤ y)
 unfold onceL
 generalize (l.mergeSort fun x y => decide (x ≤ y)) = zs at hp hm ⊢
 have hs : ∀ i j, i ≤ j → j < zs.toArray.size → zs.toArray[i]! ≤ zs.toArray[j]! := fun i j hij hj => by
  have hj' : j < zs.length := by simpa using hj
  have e1 : zs.toArray[i]! = zs[i] := by simp [getElem!_pos, show i < zs.length by omega]
  have e2 : zs.toArray[j]! = zs[j] := by simp [getElem!_pos, hj']
  rw [e1, e2]
  by_cases e : i = j
  ·subst e; exact List.le_refl _
  ·have := List.pairwise_iff_getElem.1 hp i j (by omega) hj' (by omega)
   simpa using this
 obtain ⟨h1, h2⟩ := comp_up zs.toArray hs zs.length (by simp)
 refine ⟨h1, fun x => ?_⟩
 show x ∈ compactUpTo zs.toArray zs.length ↔ _
 rw [h2 x, ← hm.mem_iff]
 constructor
 ·rintro ⟨j, hj, rfl⟩
  have e2 : zs.toArray[j]! = zs[j] := by simp [getElem!_pos, hj]
  rw [e2]; exact List.getElem_mem hj
 ·intro hx
  obtain ⟨j, hj, e⟩ := List.getElem_of_mem hx
  exact ⟨j, hj, by rw [← e]; simp [getElem!_pos, hj]⟩
theorem keys_once {ks l : List (List UInt8)} (hn : ks.Nodup) (hm : ∀ x, x ∈ ks ↔ x ∈ l) : (ks.mergeSort fun x y => decide (x ≤ y)) = onceL l := by
 obtain ⟨h1, h2⟩ := onceL_ok l
 have hp := List.pairwise_mergeSort leT leO ks
 have hk := List.mergeSort_perm ks fun x y => decide (x ≤ y)
 have hnd : (onceL l).Nodup := h1.imp fun h => h.2
 have hperm : (ks.mergeSort fun x y => decide (x ≤ y)).Perm (onceL l) := (List.perm_ext_iff_of_nodup (hk.nodup_iff.2 hn) hnd).2 fun x => by rw [hk.mem_iff, hm x, h2 x]
 refine List.Perm.eq_of_pairwise (le := fun a b => decide (a ≤ b) = true) (fun a b _ _ h1 h2 => ?_) hp (h1.imp fun h => by simpa using h.1) hperm
 simp only [decide_eq_true_eq] at h1 h2
 exact List.le_antisymm h1 h2
theorem nodup_len {α : Type} [DecidableEq α] : ∀ (l m : List α), l.Nodup → (∀ x ∈ l, x ∈ m) → l.length ≤ m.length
 | [], _, _, _ => by simp
 | x :: l, m, hn, h => by
  have hx := h x (by simp)
  have := nodup_len l (m.erase x) (List.nodup_cons.1 hn).2 fun y hy => (List.mem_erase_of_ne (fun e => by subst e; exact (List.nodup_cons.1 hn).1 hy)).2 (h y (by simp [hy]))
  rw [List.length_erase_of_mem hx] at this
  have := List.length_pos_of_mem hx
  simp only [List.length_cons]; omega
theorem onceS_len (l : List ByteArray) : (onceS l).length ≤ l.length := by
 have h : (onceL (l.map (·.data.toList))).length ≤ (l.map (·.data.toList)).length := nodup_len _ _ ((onceL_ok _).1.imp fun h => h.2) fun x hx => ((onceL_ok _).2 x).1 hx
 simpa [onceS] using h
def cntF (xs : List (ByteArray × Int)) (k : ByteArray) : Nat := (xs.filter fun x => x.1 == k).length
def longF (xs : List (ByteArray × Int)) (k : ByteArray) : Int := ((xs.filter fun x => x.1 == k).map (·.2)).sum
theorem cntF_le (xs : List (ByteArray × Int)) (k : ByteArray) : cntF xs k ≤ xs.length := List.length_filter_le _ _
theorem longF_bd {xs : List (ByteArray × Int)} (h : Pos xs) (k : ByteArray) : 0 ≤ longF xs k ∧ longF xs k ≤ xs.length * 3600000 := by
 have h1 : Pos (xs.filter fun x => x.1 == k) := fun x hx => h x (List.mem_filter.1 hx).1
 have := sumL_bd h1
 have := List.length_filter_le (fun x : ByteArray × Int => x.1 == k) xs
 unfold longF
 simp only [sumL] at *
 omega
theorem take_at (xs : List (ByteArray × Int)) (j : Nat) (h : j < xs.length) : xs.take (j + 1) = xs.take j ++ [xs.getD j default] := by
 rw [List.take_add_one, List.getElem?_eq_getElem h, List.getD_eq_getElem?_getD, List.getElem?_eq_getElem h]; rfl
theorem drop_at {α : Type} (l : List α) (j : Nat) (d : α) (h : j < l.length) : l.drop j = l.getD j d :: l.drop (j + 1) := by
 rw [List.drop_eq_getElem_cons h, List.getD_eq_getElem?_getD, List.getElem?_eq_getElem h]; rfl
theorem cntF_yes {xs : List (ByteArray × Int)} {j : Nat} (h : j < xs.length) {k : ByteArray} (e : (xs.getD j default).1 = k) : cntF (xs.take (j + 1)) k = cntF (xs.take j) k + 1 := by
 have hb : ((xs.getD j default).1 == k) = true := by rw [ba_beq]; simp only [decide_eq_true_eq]; exact e
 rw [take_at xs j h, cntF, cntF, List.filter_append, List.length_append, List.filter_cons_of_pos (p := fun x : ByteArray × Int => x.1 == k) hb]; simp
theorem cntF_no {xs : List (ByteArray × Int)} {j : Nat} (h : j < xs.length) {k : ByteArray} (e : (xs.getD j default).1 ≠ k) : cntF (xs.take (j + 1)) k = cntF (xs.take j) k := by
 have hb : ¬ ((xs.getD j default).1 == k) = true := by rw [ba_beq]; simp only [decide_eq_true_eq]; exact e
 rw [take_at xs j h, cntF, cntF, List.filter_append, List.length_append, List.filter_cons_of_neg (p := fun x : ByteArray × Int => x.1 == k) hb]; simp
theorem longF_yes {xs : List (ByteArray × Int)} {j : Nat} (h : j < xs.length) {k : ByteArray} (e : (xs.getD j default).1 = k) : longF (xs.take (j + 1)) k = longF (xs.take j) k + (xs.getD j default).2 := by
 have hb : ((xs.getD j default).1 == k) = true := by rw [ba_beq]; simp only [decide_eq_true_eq]; exact e
 rw [take_at xs j h, longF, longF, List.filter_append, List.map_append, List.sum_append, List.filter_cons_of_pos (p := fun x : ByteArray × Int => x.1 == k) hb]; simp
theorem longF_no {xs : List (ByteArray × Int)} {j : Nat} (h : j < xs.length) {k : ByteArray} (e : (xs.getD j default).1 ≠ k) : longF (xs.take (j + 1)) k = longF (xs.take j) k := by
 have hb : ¬ ((xs.getD j default).1 == k) = true := by rw [ba_beq]; simp only [decide_eq_true_eq]; exact e
 rw [take_at xs j h, longF, longF, List.filter_append, List.map_append, List.sum_append, List.filter_cons_of_neg (p := fun x : ByteArray × Int => x.1 == k) hb]; simp
theorem longF_zero {xs : List (ByteArray × Int)} {k : ByteArray} (h : k ∉ xs.map (·.1)) : longF xs k = 0 ∧ cntF xs k = 0 := by
 have e : (xs.filter fun x => x.1 == k) = [] := List.filter_eq_nil_iff.2 fun x hx hb => h (List.mem_map.2 ⟨x, hx, by rw [ba_beq] at hb; simpa using hb⟩)
 rw [longF, cntF, e]; exact ⟨rfl, rfl⟩
def ptrsL (f : ByteArray → Nat) (ks : List ByteArray) : List (ByteArray × AV) := ks.map fun k => (k, .ptr (f k) 0)
theorem mget_ptrs (f : ByteArray → Nat) : ∀ (ks : List ByteArray) (k : ByteArray), (k ∈ ks → mget k (ptrsL f ks) = some (.ptr (f k) 0)) ∧ (k ∉ ks → mget k (ptrsL f ks) = none)
 | [], k => ⟨fun h => by simp at h, fun _ => rfl⟩
 | q :: ks, k => by
  have ih := mget_ptrs f ks k
  simp only [ptrsL, List.map_cons, mget] at ih ⊢
  by_cases e : q = k
  ·subst e; simp
  ·rw [if_neg e]
   refine ⟨fun h => ih.1 ?_, fun h => ih.2 ?_⟩
   ·rcases List.mem_cons.1 h with h | h
    ·exact absurd h.symm e
    ·exact h
   ·exact fun h' => h (List.mem_cons_of_mem _ h')
theorem mset_ptrs {f : ByteArray → Nat} : ∀ {ks : List ByteArray} {k : ByteArray} (_ : k ∉ ks) (x : AV), mset k x (ptrsL f ks) = ptrsL f ks ++ [(k, x)]
 | [], k, _, x => rfl
 | q :: ks, k, h, x => by
  simp only [List.mem_cons, not_or] at h
  have ih := mset_ptrs (f := f) h.2 x
  simp only [ptrsL, List.map_cons, mset] at ih ⊢
  rw [if_neg (Ne.symm h.1), ih]; rfl
def tCell (xs : List (ByteArray × Int)) (k : ByteArray) : List AV := [.v (.int .i64 (cntF xs k)), .v (.int .i64 (longF xs k))]
structure TalI (h : Hp) (m : Nat) (ys : List (ByteArray × Int)) (S : List ByteArray) (ks : List ByteArray) (f : ByteArray → Nat) : Prop where
 nd : ks.Nodup
 mem : ∀ k, k ∈ ks ↔ k ∈ S
 map : h.H m = some (.map (ptrsL f ks))
 cell : ∀ k ∈ ks, h.H (f k) = some (.cells (tCell ys k))
 ne : ∀ k ∈ ks, f k ≠ m
 inj : ∀ k ∈ ks, ∀ q ∈ ks, f k = f q → k = q
theorem TalI.nil {h : Hp} {m : Nat} (hm : h.H m = some (.map [])) : TalI h m [] [] [] (fun _ => 0) :=
 ⟨by simp, by simp, hm, by simp, by simp, by simp⟩
theorem TalI.same {h : Hp} {m : Nat} {ys : List (ByteArray × Int)} {S ks : List ByteArray} {f : ByteArray → Nat} (t : TalI h m ys S ks f) {q : ByteArray} (hq : q ∈ ks) : TalI h m ys (S ++ [q]) ks f :=
 ⟨t.nd, fun k => by
  rw [List.mem_append, ← t.mem k, List.mem_singleton]
  exact ⟨.inl, fun h => h.elim id fun e => by rw [e]; exact hq⟩, t.map, t.cell, t.ne, t.inj⟩
theorem TalI.more {h h' : Hp} {m j : Nat} {xs : List (ByteArray × Int)} {S ks : List ByteArray} {f : ByteArray → Nat} (t : TalI h m (xs.take j) S ks f) (hj : j < xs.length) {q : ByteArray} (e : (xs.getD j default).1 = q) (hk : q ∈ ks)
  (e1 : h'.H (f q) = some (.cells (tCell (xs.take (j + 1)) q))) (e2 : ∀ i, i ≠ f q → h'.H i = h.H i) : TalI h' m (xs.take (j + 1)) S ks f where
 nd := t.nd
 mem := t.mem
 map := by rw [e2 m (Ne.symm (t.ne _ hk))]; exact t.map
 cell k hk' := by
  by_cases h : k = q
  ·rw [h]; exact e1
  ·rw [e2 _ (fun e' => h (t.inj _ hk' _ hk e')), t.cell k hk', tCell, tCell, cntF_no hj (by rw [e]; exact Ne.symm h), longF_no hj (by rw [e]; exact Ne.symm h)]
 ne := t.ne
 inj := t.inj
theorem TalI.born {h h' : Hp} {m i : Nat} {ys : List (ByteArray × Int)} {S ks : List ByteArray} {f : ByteArray → Nat} (t : TalI h m ys S ks f) {q : ByteArray} (hk : q ∉ ks) (hi : h.H i = none)
  (e0 : h'.H m = some (.map (ptrsL f ks ++ [(q, .ptr i 0)]))) (e1 : h'.H i = some (.cells (tCell ys q))) (e2 : ∀ n, n ≠ i → n ≠ m → h'.H n = h.H n) :
  TalI h' m ys (S ++ [q]) (ks ++ [q]) (fun k => if k = q then i else f k) := by
 have hfi : ∀ k ∈ ks, f k ≠ i := fun k hk' e => by have := t.cell k hk'; rw [e, hi] at this; cases this
 have him : i ≠ m := fun e => by rw [e, t.map] at hi; cases hi
 have hne : ∀ k ∈ ks, k ≠ q := fun k hk' e => hk (e ▸ hk')
 have hpl : ptrsL (fun k => if k = q then i else f k) ks = ptrsL f ks := List.map_congr_left fun k hk' => by simp only [if_neg (hne k hk')]
 refine ⟨?_, fun k => ?_, ?_, fun k hk' => ?_, fun k hk' => ?_, fun k hk' p hp e => ?_⟩
 ·rw [List.nodup_append]
  exact ⟨t.nd, by simp, fun a ha b hb e => by simp only [List.mem_singleton] at hb; exact hk (by rw [← hb, ← e]; exact ha)⟩
 ·rw [List.mem_append, List.mem_append, ← t.mem k]
 ·rw [e0]
  have : ptrsL (fun k => if k = q then i else f k) (ks ++ [q]) = ptrsL f ks ++ [(q, .ptr i 0)] := by
   rw [← hpl]; simp [ptrsL]
  rw [this]
 ·rcases List.mem_append.1 hk' with h1 | h1
  ·have hn := hne k h1
   simp only [if_neg hn]
   rw [e2 _ (hfi k h1) (t.ne k h1), t.cell k h1]
  ·simp only [List.mem_singleton] at h1
   subst h1; simp only [if_true]; exact e1
 ·rcases List.mem_append.1 hk' with h1 | h1
  ·simp only [if_neg (hne k h1)]; exact t.ne k h1
  ·simp only [List.mem_singleton] at h1; subst h1; simp only [if_true]; exact him
 ·rcases List.mem_append.1 hk' with h1 | h1 <;> rcases List.mem_append.1 hp with h2 | h2
  ·simp only [if_neg (hne k h1), if_neg (hne p h2)] at e; exact t.inj k h1 p h2 e
  ·simp only [List.mem_singleton] at h2
   simp only [if_neg (hne k h1), h2, if_true] at e; exact absurd e (hfi k h1)
  ·simp only [List.mem_singleton] at h1
   simp only [if_neg (hne p h2), h1, if_true] at e; exact absurd e.symm (hfi p h2)
  ·simp only [List.mem_singleton] at h1 h2; rw [h1, h2]
abbrev zPUE : List Nat := [0, 1, 2, 3, 4, 5, 6, 7, 8, 9, 10, 11, 12, 13]
abbrev zPUP : List (Nat × List Nat × List Nat) := []
abbrev zPVE : List Nat := [0, 1, 2, 3, 4, 5, 6, 7, 8, 9, 10, 11, 12, 13]
abbrev zPVP : List (Nat × List Nat × List Nat) := []
attribute [go_sem] zPUE zPUP zPVE zPVP
theorem rest_bd {xs : List (ByteArray × Int)} (hp : Pos xs) (hn : xs ≠ []) {a b : Int} (h : a ≤ b) : 0 ≤ (b - a).tmod (sumL xs) ∧ (b - a).tmod (sumL xs) < sumL xs := by
 have hs := sumL_pos hp hn
 exact ⟨Int.tmod_nonneg _ (by omega), Int.tmod_lt_of_pos _ (by omega)⟩
abbrev Pl := ByteArray × Int × Int
def longA (xs : List (ByteArray × Int)) (i : Nat) : Int := (xs.getD i default).2
def nextA (xs : List (ByteArray × Int)) (i : Nat) : Nat × Int := ((i + 1) % xs.length, longA xs ((i + 1) % xs.length))
def behind (xs : List (ByteArray × Int)) (s : Nat × Int) (d : Int) : Nat × Int := if 0 < s.2 - d then (s.1, s.2 - d) else nextA xs s.1
def gapN (xs : List (ByteArray × Int)) : Nat → Nat × Int → Int → Int → List Pl × (Nat × Int)
 | 0, s, _, _ => ([], s)
 | n + 1, s, a, b => if a < b then
   let r := gapN xs n (behind xs s (min s.2 (b - a))) (a + min s.2 (b - a)) b
   (((xs.getD s.1 default).1, a, min s.2 (b - a)) :: r.1, r.2)
  else ([], s)
def gapF (xs : List (ByteArray × Int)) (s : Nat × Int) (a b : Int) : List Pl × (Nat × Int) := gapN xs (b - a).toNat s a b
def posL (xs : List (ByteArray × Int)) (r : Int) : Nat × Int := (posF xs r, longA xs (posF xs r) - (r - preL xs (posF xs r)))
def goOnF (xs : List (ByteArray × Int)) (w0 m : Int) (s : Nat × Int) (at_ : Int) : Nat × Int :=
 if m = 4 then posL xs ((at_ - w0).tmod (sumL xs))
 else if s.2 < longA xs s.1 then (if m = 3 then nextA xs s.1 else if m = 2 then (s.1, longA xs s.1) else s)
 else s
structure WfS (xs : List (ByteArray × Int)) (s : Nat × Int) : Prop where
 lt : s.1 < xs.length
 pos : 1 ≤ s.2
 le : s.2 ≤ longA xs s.1
theorem longA_bd {xs : List (ByteArray × Int)} (hp : Pos xs) {i : Nat} (hi : i < xs.length) : 1 ≤ longA xs i ∧ longA xs i ≤ 3600000 := pos_at hp hi
theorem wf_next {xs : List (ByteArray × Int)} (hp : Pos xs) (hn : xs ≠ []) (i : Nat) : WfS xs (nextA xs i) :=
 have hl := List.length_pos_iff.2 hn
 have hm := Nat.mod_lt (i + 1) hl
 ⟨hm, (longA_bd hp hm).1, Int.le_refl _⟩
theorem wf_behind {xs : List (ByteArray × Int)} (hp : Pos xs) (hn : xs ≠ []) {s : Nat × Int} (h : WfS xs s) {d : Int} (hd : 0 ≤ d) : WfS xs (behind xs s d) := by
 unfold behind
 split
 ·exact ⟨h.lt, by show 1 ≤ s.2 - d; omega, by show s.2 - d ≤ longA xs s.1; have := h.le; omega⟩
 ·exact wf_next hp hn _
theorem wf_first {xs : List (ByteArray × Int)} (hp : Pos xs) (hn : xs ≠ []) : WfS xs (0, longA xs 0) :=
 have hl := List.length_pos_iff.2 hn
 ⟨hl, (longA_bd hp hl).1, Int.le_refl _⟩
theorem wf_posL {xs : List (ByteArray × Int)} (hp : Pos xs) {r : Int} (h0 : 0 ≤ r) (h1 : r < sumL xs) : WfS xs (posL xs r) := by
 obtain ⟨q1, q2, q3⟩ := posF_ex hp h0 h1
 rw [preL_succ xs _ q1] at q3
 exact ⟨q1, by show 1 ≤ longA xs (posF xs r) - (r - preL xs (posF xs r)); unfold longA; omega, by show longA xs (posF xs r) - (r - preL xs (posF xs r)) ≤ longA xs (posF xs r); omega⟩
theorem wf_goOn {xs : List (ByteArray × Int)} (hp : Pos xs) (hn : xs ≠ []) {w0 m : Int} {s : Nat × Int} (h : WfS xs s) {at_ : Int} (ha : w0 ≤ at_) : WfS xs (goOnF xs w0 m s at_) := by
 unfold goOnF
 split
 ·have := rest_bd hp hn ha
  exact wf_posL hp this.1 this.2
 ·split
  ·split
   ·exact wf_next hp hn _
   ·split
    ·exact ⟨h.lt, (longA_bd hp h.lt).1, Int.le_refl _⟩
    ·exact h
  ·exact h
theorem goOn_twice {xs : List (ByteArray × Int)} {w0 m : Int} {s : Nat × Int} (a b : Int) : goOnF xs w0 m (goOnF xs w0 m s a) b = goOnF xs w0 m s b := by
 unfold goOnF
 by_cases h4 : m = 4
 ·simp only [if_pos h4]
 ·simp only [if_neg h4]
  by_cases hl : s.2 < longA xs s.1
  ·simp only [if_pos hl]
   by_cases h3 : m = 3
   ·simp only [if_pos h3, nextA]
    rw [if_neg (Int.lt_irrefl _)]
   ·simp only [if_neg h3]
    by_cases h2 : m = 2
    ·simp only [if_pos h2]
     rw [if_neg (Int.lt_irrefl _)]
    ·simp only [if_neg h2, if_pos hl]
  ·simp only [if_neg hl]
theorem goOn_first {xs : List (ByteArray × Int)} (hp : Pos xs) (hn : xs ≠ []) (w0 m : Int) : goOnF xs w0 m (0, longA xs 0) w0 = (0, longA xs 0) := by
 have hl := List.length_pos_iff.2 hn
 unfold goOnF
 split
 ·have e : posF xs 0 = 0 := posF_of hp hl (by rw [preL_zero]; exact Int.le_refl _) (by rw [preL_succ xs 0 hl, preL_zero]; have := (pos_at hp hl).1; omega)
  rw [Int.sub_self, Int.zero_tmod, posL, e, preL_zero]; simp
 ·rw [if_neg (Int.lt_irrefl _)]
theorem gapN_stop (xs : List (ByteArray × Int)) (n : Nat) (s : Nat × Int) {a b : Int} (h : b ≤ a) : gapN xs n s a b = ([], s) := by
 cases n with
 | zero => rfl
 | succ n => rw [gapN, if_neg (by omega)]
theorem gapF_stop (xs : List (ByteArray × Int)) (s : Nat × Int) {a b : Int} (h : b ≤ a) : gapF xs s a b = ([], s) := gapN_stop xs _ s h
theorem gapN_fuel {xs : List (ByteArray × Int)} (hp : Pos xs) (hn : xs ≠ []) : ∀ (k n : Nat) {s : Nat × Int} {a b : Int}, WfS xs s → (b - a).toNat ≤ k → (b - a).toNat ≤ n → gapN xs k s a b = gapN xs n s a b := by
 intro k
 induction k with
 | zero => intro n s a b _ h _; rw [gapN_stop xs 0 s (by omega), gapN_stop xs n s (by omega)]
 | succ k ih =>
  intro n s a b hw hk hn'
  by_cases hab : a < b
  ·cases n with
   | zero => omega
   | succ n =>
    have h1 := hw.pos
    have hd : 1 ≤ min s.2 (b - a) := by omega
    rw [gapN, gapN, if_pos hab, if_pos hab, ih n (wf_behind hp hn hw (by omega)) (by omega) (by omega)]
  ·rw [gapN_stop xs _ s (by omega), gapN_stop xs _ s (by omega)]
theorem gapN_more {xs : List (ByteArray × Int)} (hp : Pos xs) (hn : xs ≠ []) (n : Nat) {s : Nat × Int} {a b : Int} (hw : WfS xs s) (h : (b - a).toNat ≤ n) : gapN xs n s a b = gapF xs s a b :=
 gapN_fuel hp hn n _ hw h (Nat.le_refl _)
theorem gapF_step {xs : List (ByteArray × Int)} (hp : Pos xs) (hn : xs ≠ []) {s : Nat × Int} (hw : WfS xs s) {a b : Int} (hab : a < b) :
  gapF xs s a b = (((xs.getD s.1 default).1, a, min s.2 (b - a)) :: (gapF xs (behind xs s (min s.2 (b - a))) (a + min s.2 (b - a)) b).1, (gapF xs (behind xs s (min s.2 (b - a))) (a + min s.2 (b - a)) b).2) := by
 obtain ⟨k, hk⟩ : ∃ k, (b - a).toNat = k + 1 := ⟨(b - a).toNat - 1, by omega⟩
 have h1 := hw.pos
 have hw' := wf_behind hp hn hw (d := min s.2 (b - a)) (by omega)
 rw [gapF, hk, gapN, if_pos hab, gapN_more hp hn k hw' (by omega)]
def tagF (l : List Pl) : List (Pl × Bool) := l.map fun x => (x, false)
def runE (xs : List (ByteArray × Int)) (w0 w1 m : Int) : List Pl → Nat × Int → Int → List (Pl × Bool)
 | [], s, now => tagF (gapF xs s now w1).1
 | c :: cs, s, now => tagF (gapF xs s now c.2.1).1 ++ ((c.1, c.2.1, c.2.2 - c.2.1), true) :: runE xs w0 w1 m cs (goOnF xs w0 m (gapF xs s now c.2.1).2 c.2.2) c.2.2
def cutB (w0 w1 : Int) (c : Pl) : Pl := (c.1, max c.2.1 w0, min c.2.2 w1)
def cutF (w0 w1 : Int) (bs : List Pl) : List Pl := (bs.map (cutB w0 w1)).filter fun c => decide (c.2.1 < c.2.2)
def Row : List Pl → Int → Int → Prop
 | [], now, w1 => now ≤ w1
 | c :: cs, now, w1 => now ≤ c.2.1 ∧ c.2.1 < c.2.2 ∧ Row cs c.2.2 w1
theorem Row.le : ∀ {cs : List Pl} {now w1 : Int}, Row cs now w1 → now ≤ w1
 | [], _, _, h => h
 | c :: cs, now, w1, h => by have := Row.le h.2.2; have := h.1; have := h.2.1; omega
theorem runE_hit {xs : List (ByteArray × Int)} {w0 w1 m : Int} {c : Pl} {cs : List Pl} {s : Nat × Int} {now : Int} (h : c.2.1 = now) :
  runE xs w0 w1 m (c :: cs) s now = ((c.1, c.2.1, c.2.2 - c.2.1), true) :: runE xs w0 w1 m cs (goOnF xs w0 m s c.2.2) c.2.2 := by
 rw [runE, gapF_stop xs s (by omega)]; rfl
theorem runE_hit' {xs : List (ByteArray × Int)} {w0 w1 m : Int} {c : Pl} {cs : List Pl} {s : Nat × Int} {now : Int} (h : c.2.1 = now) :
  runE xs w0 w1 m (c :: cs) (goOnF xs w0 m s now) now = ((c.1, c.2.1, c.2.2 - c.2.1), true) :: runE xs w0 w1 m cs (goOnF xs w0 m s c.2.2) c.2.2 := by
 rw [runE_hit h, goOn_twice]
def headT (cs : List Pl) (w1 : Int) : Int := match cs with | [] => w1 | c :: _ => c.2.1
theorem runE_step {xs : List (ByteArray × Int)} (hp : Pos xs) (hn : xs ≠ []) {w0 w1 m : Int} {cs : List Pl} {s : Nat × Int} (hw : WfS xs s) {now : Int} (h : now < headT cs w1) :
  runE xs w0 w1 m cs s now = (((xs.getD s.1 default).1, now, min s.2 (headT cs w1 - now)), false) :: runE xs w0 w1 m cs (behind xs s (min s.2 (headT cs w1 - now))) (now + min s.2 (headT cs w1 - now)) := by
 cases cs with
 | nil =>
  simp only [headT] at h ⊢
  rw [runE, gapF_step hp hn hw h]; rfl
 | cons c cs =>
  simp only [headT] at h ⊢
  rw [runE, gapF_step hp hn hw h]; rfl
theorem runE_end {xs : List (ByteArray × Int)} {w0 w1 m : Int} {s : Nat × Int} {now : Int} (h : w1 ≤ now) : runE xs w0 w1 m [] s now = [] := by
 rw [runE, gapF_stop xs s h]; rfl
def Fills : List (Pl × Bool) → Int → Int → Prop
 | [], a, b => a = b
 | x :: l, a, b => x.1.2.1 = a ∧ 1 ≤ x.1.2.2 ∧ Fills l (a + x.1.2.2) b
theorem Fills.le : ∀ {l : List (Pl × Bool)} {a b : Int}, Fills l a b → a ≤ b
 | [], _, _, h => Int.le_of_eq h
 | x :: l, a, b, h => by have := Fills.le h.2.2; have := h.2.1; omega
theorem Fills.app : ∀ {l m : List (Pl × Bool)} {a b c : Int}, Fills l a b → Fills m b c → Fills (l ++ m) a c
 | [], m, a, b, c, h1, h2 => by
  obtain rfl : a = b := h1
  exact h2
 | x :: l, m, a, b, c, h1, h2 => ⟨h1.1, h1.2.1, Fills.app h1.2.2 h2⟩
theorem fills_gapN {xs : List (ByteArray × Int)} (hp : Pos xs) (hn : xs ≠ []) : ∀ (n : Nat) {s : Nat × Int} {a b : Int}, WfS xs s → (b - a).toNat ≤ n → a ≤ b →
  Fills (tagF (gapN xs n s a b).1) a b ∧ WfS xs (gapN xs n s a b).2 ∧ ∀ x ∈ (gapN xs n s a b).1, x.2.2 ≤ 3600000 ∧ x.1 ∈ xs.map (·.1) := by
 intro n
 induction n with
 | zero =>
  intro s a b hw h hab
  rw [gapN_stop xs 0 s (by omega)]
  exact ⟨by show a = b; omega, hw, by simp⟩
 | succ n ih =>
  intro s a b hw h hab
  by_cases hlt : a < b
  ·have h1 := hw.pos
   have h2 := hw.le
   have h3 := (longA_bd hp hw.lt).2
   have hd : 1 ≤ min s.2 (b - a) ∧ min s.2 (b - a) ≤ b - a ∧ min s.2 (b - a) ≤ s.2 := by omega
   obtain ⟨q1, q2, q3⟩ := ih (s := behind xs s (min s.2 (b - a))) (a := a + min s.2 (b - a)) (b := b) (wf_behind hp hn hw (by omega)) (by omega) (by omega)
   rw [gapN, if_pos hlt]
   refine ⟨⟨rfl, hd.1, q1⟩, q2, fun x hx => ?_⟩
   rcases List.mem_cons.1 hx with rfl | hx
   ·refine ⟨by show min s.2 (b - a) ≤ 3600000; omega, List.mem_map.2 ⟨xs.getD s.1 default, ?_, rfl⟩⟩
    rw [List.getD_eq_getElem?_getD, List.getElem?_eq_getElem hw.lt]; exact List.getElem_mem hw.lt
   ·exact q3 x hx
  ·rw [gapN_stop xs _ s (by omega)]
   exact ⟨by show a = b; omega, hw, by simp⟩
theorem fills_gap {xs : List (ByteArray × Int)} (hp : Pos xs) (hn : xs ≠ []) {s : Nat × Int} {a b : Int} (hw : WfS xs s) (hab : a ≤ b) :
  Fills (tagF (gapF xs s a b).1) a b ∧ WfS xs (gapF xs s a b).2 ∧ ∀ x ∈ (gapF xs s a b).1, x.2.2 ≤ 3600000 ∧ x.1 ∈ xs.map (·.1) := fills_gapN hp hn _ hw (Nat.le_refl _) hab
theorem fills_run {xs : List (ByteArray × Int)} (hp : Pos xs) (hn : xs ≠ []) {w0 w1 m : Int} : ∀ {cs : List Pl} {s : Nat × Int} {now : Int}, WfS xs s → w0 ≤ now → Row cs now w1 →
  Fills (runE xs w0 w1 m cs s now) now w1 ∧ ∀ x ∈ runE xs w0 w1 m cs s now, x.2 = false → x.1.2.2 ≤ 3600000 ∧ x.1.1 ∈ xs.map (·.1)
 | [], s, now, hw, h0, hr => by
  obtain ⟨q1, _, q3⟩ := fills_gap hp hn hw (b := w1) hr
  refine ⟨q1, fun x hx _ => ?_⟩
  obtain ⟨y, hy, rfl⟩ := List.mem_map.1 hx
  exact q3 y hy
 | c :: cs, s, now, hw, h0, hr => by
  obtain ⟨r1, r2, r3⟩ := hr
  obtain ⟨q1, q2, q3⟩ := fills_gap hp hn hw (b := c.2.1) r1
  obtain ⟨p1, p2⟩ := fills_run (w0 := w0) (m := m) hp hn (s := goOnF xs w0 m (gapF xs s now c.2.1).2 c.2.2) (wf_goOn hp hn q2 (by omega)) (by omega) r3
  rw [runE]
  refine ⟨q1.app ⟨rfl, by show 1 ≤ c.2.2 - c.2.1; omega, ?_⟩, fun x hx hf => ?_⟩
  ·have e : c.2.1 + (c.2.2 - c.2.1) = c.2.2 := by omega
   show Fills _ (c.2.1 + (c.2.2 - c.2.1)) w1
   rw [e]; exact p1
  ·rcases List.mem_append.1 hx with hx | hx
   ·obtain ⟨y, hy, rfl⟩ := List.mem_map.1 hx
    exact q3 y hy
   ·rcases List.mem_cons.1 hx with rfl | hx
    ·cases hf
    ·exact p2 x hx hf
theorem fills_ge : ∀ {l : List (Pl × Bool)} {a b : Int}, Fills l a b → ∀ x ∈ l, a ≤ x.1.2.1 ∧ x.1.2.1 + x.1.2.2 ≤ b ∧ 1 ≤ x.1.2.2
 | [], _, _, _, x, hx => by simp at hx
 | y :: l, a, b, h, x, hx => by
  have h1 := h.1
  have h2 := h.2.1
  rcases List.mem_cons.1 hx with rfl | hx
  ·have := Fills.le h.2.2
   omega
  ·have := fills_ge h.2.2 x hx
   omega
theorem fills_sorted : ∀ {l : List (Pl × Bool)} {a b : Int}, Fills l a b → (l.map (·.1)).Pairwise fun x y => x.2.1 < y.2.1
 | [], _, _, _ => List.Pairwise.nil
 | y :: l, a, b, h => by
  refine List.Pairwise.cons (fun x hx => ?_) (fills_sorted h.2.2)
  obtain ⟨z, hz, rfl⟩ := List.mem_map.1 hx
  have h3 := fills_ge h.2.2 z hz
  have h1 := h.1
  have h2 := h.2.1
  show y.1.2.1 < z.1.2.1
  omega
def ownF (l : List (Pl × Bool)) : List Pl := (l.filter fun x => !x.2).map (·.1)
def brkF (l : List (Pl × Bool)) : List Pl := (l.filter fun x => x.2).map (·.1)
theorem ownF_app (l m : List (Pl × Bool)) : ownF (l ++ m) = ownF l ++ ownF m := by simp [ownF]
theorem brkF_app (l m : List (Pl × Bool)) : brkF (l ++ m) = brkF l ++ brkF m := by simp [brkF]
theorem ownF_tag (l : List Pl) : ownF (tagF l) = l ∧ brkF (tagF l) = [] := by
 induction l with
 | nil => exact ⟨rfl, rfl⟩
 | cons x l ih =>
  obtain ⟨h1, h2⟩ := ih
  simp only [ownF, brkF, tagF, List.map_cons, Bool.not_false, List.filter_cons_of_pos, Bool.false_eq_true, not_false_eq_true, List.filter_cons_of_neg, List.cons.injEq, true_and] at h1 h2 ⊢
  exact ⟨h1, h2⟩
theorem ownF_len (l : List (Pl × Bool)) : (ownF l).length + (brkF l).length = l.length := by
 induction l with
 | nil => rfl
 | cons x l ih =>
  obtain ⟨x, b⟩ := x
  cases b <;> simp [ownF, brkF] at ih ⊢ <;> omega
theorem own_perm (l : List (Pl × Bool)) : (ownF l ++ brkF l).Perm (l.map (·.1)) := by
 induction l with
 | nil => exact List.Perm.nil
 | cons x l ih =>
  obtain ⟨x, b⟩ := x
  cases b
  ·exact List.Perm.cons x ih
  ·exact List.perm_middle.trans (List.Perm.cons x ih)
theorem perm_sorted : ∀ {l m : List Pl}, l.Perm m → (l.Pairwise fun x y => x.2.1 ≤ y.2.1) → (m.Pairwise fun x y => x.2.1 < y.2.1) → l = m
 | [], m, h, _, _ => h.nil_eq
 | x :: l, [], h, _, _ => by have := h.length_eq; simp at this
 | x :: l, y :: m, h, h1, h2 => by
  have e : x = y := by
   rcases List.mem_cons.1 (h.mem_iff.1 (List.mem_cons_self (a := x) (l := l))) with e | hx
   ·exact e
   ·rcases List.mem_cons.1 (h.mem_iff.2 (List.mem_cons_self (a := y) (l := m))) with e | hy
    ·exact e.symm
    ·have q1 := (List.pairwise_cons.1 h1).1 y hy
     have q2 := (List.pairwise_cons.1 h2).1 x hx
     omega
  subst e
  rw [perm_sorted (List.Perm.cons_inv h) (List.pairwise_cons.1 h1).2 (List.pairwise_cons.1 h2).2]
def Brk : List Pl → Int → Prop
 | [], _ => True
 | b :: bs, p => p ≤ b.2.1 ∧ b.2.1 < b.2.2 ∧ b.2.2 ≤ 345686400000 ∧ Brk bs b.2.2
theorem cutF_cons (w0 w1 : Int) (b : Pl) (bs : List Pl) : cutF w0 w1 (b :: bs) = if max b.2.1 w0 < min b.2.2 w1 then cutB w0 w1 b :: cutF w0 w1 bs else cutF w0 w1 bs := by
 have e : decide ((cutB w0 w1 b).2.1 < (cutB w0 w1 b).2.2) = decide (max b.2.1 w0 < min b.2.2 w1) := rfl
 rw [cutF, List.map_cons, List.filter_cons, e]
 by_cases h : max b.2.1 w0 < min b.2.2 w1
 ·rw [if_pos h, decide_eq_true h]; rfl
 ·rw [if_neg h, decide_eq_false h]; rfl
theorem row_cut {w0 w1 : Int} : ∀ {bs : List Pl} {p now : Int}, Brk bs p → now ≤ w1 → now ≤ max p w0 → Row (cutF w0 w1 bs) now w1
 | [], p, now, _, h1, _ => h1
 | b :: bs, p, now, h, h1, h2 => by
  obtain ⟨q1, q2, _, q4⟩ := h
  rw [cutF_cons]
  split
  ·rename_i hlt
   exact ⟨by show now ≤ max b.2.1 w0; omega, hlt, row_cut q4 (by show min b.2.2 w1 ≤ w1; omega) (by show min b.2.2 w1 ≤ max b.2.2 w0; omega)⟩
  ·exact row_cut q4 h1 (by omega)
def ofPl (l : List Pl) : List (ByteArray × Int) := l.map fun x => (x.1, x.2.2)
def lostK (W O : List (ByteArray × Int)) (k : ByteArray) : Option (ByteArray × Int × Int) :=
 if ((cntF O k : Nat) : Int) - (cntF W k : Nat) ≠ 0 ∨ longF O k - longF W k ≠ 0 then some (k, ((cntF O k : Nat) : Int) - (cntF W k : Nat), longF O k - longF W k) else none
theorem filterMap_sub {α β : Type} (R : α → α → Prop) (asy : ∀ x y, R x y → ¬ R y x) (f : α → Option β) : ∀ (I K : List α), I.Pairwise R → K.Pairwise R → (∀ x ∈ K, x ∈ I) → (∀ x ∈ I, x ∉ K → f x = none) → K.filterMap f = I.filterMap f
 | [], K, _, _, h, _ => by
  cases K with
  | nil => rfl
  | cons x K => have := h x List.mem_cons_self; simp at this
 | y :: I, [], hI, _, _, hf => by
  rw [List.filterMap_cons, hf y List.mem_cons_self (by simp)]
  exact filterMap_sub R asy f I [] (List.pairwise_cons.1 hI).2 List.Pairwise.nil (by simp) (fun x hx _ => hf x (List.mem_cons_of_mem _ hx) (by simp))
 | y :: I, x :: K, hI, hK, h, hf => by
  obtain ⟨i1, i2⟩ := List.pairwise_cons.1 hI
  obtain ⟨k1, k2⟩ := List.pairwise_cons.1 hK
  rcases List.mem_cons.1 (h x List.mem_cons_self) with e | hx
  ·subst e
   have ih := filterMap_sub R asy f I K i2 k2 (fun z hz => by
    rcases List.mem_cons.1 (h z (List.mem_cons_of_mem _ hz)) with e | hz'
    ·subst e; exact absurd (k1 z hz) (fun q => asy _ _ q q)
    ·exact hz') (fun z hz hzk => hf z (List.mem_cons_of_mem _ hz) (fun q => by
    rcases List.mem_cons.1 q with e | q
    ·subst e; exact asy _ _ (i1 z hz) (i1 z hz)
    ·exact hzk q))
   rw [List.filterMap_cons, List.filterMap_cons, ih]
  ·have hy : y ∉ x :: K := fun q => by
    rcases List.mem_cons.1 q with e | q
    ·subst e; exact asy _ _ (i1 y hx) (i1 y hx)
    ·exact asy _ _ (k1 y q) (i1 x hx)
   have ih := filterMap_sub R asy f I (x :: K) i2 hK (fun z hz => by
    rcases List.mem_cons.1 (h z hz) with e | hz'
    ·subst e; exact absurd hz hy
    ·exact hz') (fun z hz hzk => hf z (List.mem_cons_of_mem _ hz) hzk)
   rw [ih, List.filterMap_cons (a := y), hf y List.mem_cons_self hy]
theorem lost_same {W O : List (ByteArray × Int)} {A B : List ByteArray} (hA : ∀ k, k ∈ A ↔ k ∈ W.map (·.1) ∨ k ∈ O.map (·.1)) (hB : ∀ k ∈ A, k ∈ B) : (onceS A).filterMap (lostK W O) = (onceS B).filterMap (lostK W O) := by
 unfold onceS
 rw [List.filterMap_map, List.filterMap_map]
 obtain ⟨a1, a2⟩ := onceL_ok (A.map (·.data.toList))
 obtain ⟨b1, b2⟩ := onceL_ok (B.map (·.data.toList))
 refine filterMap_sub (fun x y : List UInt8 => x ≤ y ∧ x ≠ y) (fun x y h1 h2 => h1.2 (List.le_antisymm h1.1 h2.1)) _ _ _ b1 a1 (fun x hx => ?_) (fun x hx hn => ?_)
 ·rw [b2]
  obtain ⟨k, hk, rfl⟩ := List.mem_map.1 ((a2 x).1 hx)
  exact List.mem_map.2 ⟨k, hB k hk, rfl⟩
 ·rw [a2] at hn
  have hk : (⟨x.toArray⟩ : ByteArray) ∉ A := fun q => hn (List.mem_map.2 ⟨_, q, by simp⟩)
  rw [hA] at hk
  simp only [not_or] at hk
  obtain ⟨w1, w2⟩ := longF_zero hk.1
  obtain ⟨o1, o2⟩ := longF_zero hk.2
  show lostK W O ⟨x.toArray⟩ = none
  rw [lostK, w1, w2, o1, o2]; simp
end Go.Proofs.YtoleejecmefogaaGreatDoor
