/- signkeep1.CachesFit returns true for every list of numbers. -/
import Derived.Test.YtgnknjlgcinboaaGreatDoorM2
namespace Go.Proofs.YtgnknjlgcinboaaGreatDoor
open Go
set_option linter.unusedVariables false
set_option linter.unusedSimpArgs false
open Nat renaming reduceAdd → nA, reduceSub → nB, reduceMul → nC, reduceLT → nD, reduceLeDiff → nE, reduceEqDiff → nF, reduceMod → nG, reduceDiv → nH, reducePow → nI
set_option maxRecDepth 100000
set_option maxHeartbeats 8000000
abbrev zM30 : Option Tmp → Nat := mdL [(15, 2)]
attribute [go_sem] zM30
def nmC : List ByteArray := [⟨#[97]⟩, ⟨#[98]⟩, ⟨#[99]⟩, ⟨#[100]⟩, ⟨#[101]⟩]
theorem nmC_key : ∀ s ∈ nmC, keyB s = true ∧ s.size ≤ 1000 := by decide
theorem nmC_ne : (⟨#[]⟩ : ByteArray) ∉ nmC := by simp [nmC]
structure FitH (h : Hp) (i : Nat) (l : List Int) (a : Int) (ci k : Nat) (room rule now : Int) (pin : ByteArray) (K : Nat → Kp) (ps : List Nat) : Prop where
 st : h.H i = some (strm l a)
 c : h.H ci = some (.cells (encCa room rule now k ps.length))
 t : h.T k = some (.cont 1 (ps.map encR))
 ks : CacheH h K ps
 ci : ci ∉ ps
 fit : FitI room now nmC pin (ps.map K)
theorem strm_ne {l : List Int} {a : Int} {x : Kp} : strm l a ≠ .cells (encKp x) := by
 unfold strm encKp; simp
theorem strm_neC {l : List Int} {a : Int} {room rule now : Int} {k n : Nat} : strm l a ≠ .cells (encCa room rule now k n) := by
 unfold strm encCa; simp
section
variable {h : Hp} {i : Nat} {l : List Int} {a : Int} {ci k : Nat} {room rule now : Int} {pin : ByteArray} {K : Nat → Kp} {ps : List Nat}
theorem FitH.ici (s : FitH h i l a ci k room rule now pin K ps) : ci ≠ i := by
 rintro rfl
 have := s.st; rw [s.c] at this
 exact strm_neC (Option.some.inj this).symm
theorem FitH.ips (s : FitH h i l a ci k room rule now pin K ps) : ∀ p ∈ ps, p ≠ i := fun p hp => by
 rintro rfl
 have := s.st; rw [s.ks p hp] at this
 exact strm_ne (Option.some.inj this).symm
theorem FitH.next (s : FitH h i l a ci k room rule now pin K ps) (b : Int) : FitH (h.st i l b) i l b ci k room rule now pin K ps :=
 ⟨st_at _ _ _ _, (upd_other _ _ s.ici).trans s.c, s.t, fun p hp => (upd_other _ _ (s.ips p hp)).trans (s.ks p hp), s.ci, s.fit⟩
theorem FitH.len (s : FitH h i l a ci k room rule now pin K ps) : ps.length ≤ 5 := by
 have := s.fit.len; rw [List.length_map] at this; exact this
theorem FitH.ask (s : FitH h i l a ci k room rule now pin K ps) {p : Nat} (hp : p ∈ ps) : FitH ⟨upd (upd h.H ci (some (.cells (encCa room rule (now + 1) k ps.length)))) p (some (.cells (encKp (askF (now + 1) (K p))))), h.T⟩ i l a ci k room rule (now + 1) pin (fun q => if q = p then askF (now + 1) (K p) else K q) ps := by
 have hpc : ci ≠ p := by rintro rfl; exact s.ci hp
 refine ⟨?_, (upd_other _ _ hpc).trans (upd_same _ _ _), s.t, fun q hq => ?_, s.ci, ?_⟩
 ·show upd (upd h.H ci _) p _ i = _
  rw [upd_other _ _ (fun e => s.ips p hp e.symm), upd_other _ _ (fun e => s.ici e.symm)]; exact s.st
 ·show upd (upd h.H ci _) p _ q = some (AO.cells (encKp (if q = p then askF (now + 1) (K p) else K q)))
  by_cases e2 : q = p
  ·rw [e2, upd_same, if_pos rfl]
  ·rw [upd_other _ _ e2, upd_other _ _ (by rintro rfl; exact s.ci hq), if_neg e2]
   exact s.ks q hq
 ·rw [atK_map (item := (K p).1) (fun x => askF (now + 1) x) s.fit.one hp rfl]
  exact s.fit.ask _
theorem FitH.pins (s : FitH h i l a ci k room rule now (⟨#[]⟩ : ByteArray) K ps) {p : Nat} (hp : p ∈ ps) (hne : (K p).1 ≠ (⟨#[]⟩ : ByteArray)) : FitH ⟨upd h.H p (some (.cells (encKp (pinF true (K p))))), h.T⟩ i l a ci k room rule now (K p).1 (fun q => if q = p then pinF true (K p) else K q) ps := by
 have hpc : ci ≠ p := by rintro rfl; exact s.ci hp
 refine ⟨?_, (upd_other _ _ hpc).trans s.c, s.t, fun q hq => ?_, s.ci, ?_⟩
 ·show upd h.H p _ i = _
  rw [upd_other _ _ (fun e => s.ips p hp e.symm)]; exact s.st
 ·show upd h.H p _ q = some (AO.cells (encKp (if q = p then pinF true (K p) else K q)))
  by_cases e2 : q = p
  ·rw [e2, upd_same, if_pos rfl]
  ·rw [upd_other _ _ e2, if_neg e2]
   exact s.ks q hq
 ·rw [atK_map (item := (K p).1) (fun x => pinF true x) s.fit.one hp rfl]
  exact s.fit.pin _ (hasL_iff.2 ⟨K p, List.mem_map_of_mem hp, rfl⟩) hne
theorem FitH.same (s : FitH h i l a ci k room rule now pin K ps) {T' : Nat → Option TO} (ht : ∀ t, h.T t ≠ none → T' t = h.T t) : FitH ⟨h.H, T'⟩ i l a ci k room rule now pin K ps :=
 ⟨s.st, s.c, (ht k (by rw [s.t]; simp)).trans s.t, s.ks, s.ci, s.fit⟩
end
theorem g_lawFit (l : List Int) (h : Hp) (hl : SOk l) : ACalls Tryz.prog 5 [.row 1 (l.map encI) none] h (fun r _ => r = .v (.bool true)) := by
 have hp1 := fun i a h ha => g_pick i l a [5, 10, 30] none h hl ha (by decide)
 have hp2 := fun i a h ha => g_pick i l a [1, 3, 5, 10] none h hl ha (by decide)
 have hs1 := fun i a h ha => g_some i l a nmC none h hl ha (by decide)
 have hsv : nmC.map encS = [[.v (.string ⟨#[97]⟩)], [.v (.string ⟨#[98]⟩)], [.v (.string ⟨#[99]⟩)], [.v (.string ⟨#[100]⟩)], [.v (.string ⟨#[101]⟩)]] := rfl
 rw [hsv] at hs1
 simp only [List.map_cons, List.map_nil, encI] at hp1 hp2
 refine gE Tryz.func5 rfl (by kernel_rfl) 103 rfl fun c => ?_
 (repeat (first | refine gQ rfl ?_ | (refine gM zM30 fun K1 hK1 => ?_; simp only [go_sem, ↓reduceIte, reduceCtorEq, nA, nB, nC, nD, nE, nF] <;> and_intros <;> first | (apply hK1; clear hK1 K1) | (intros; first | omega | decide | (simp_all <;> omega)) | skip)))
 intro i hi
 refine hK1 _ ?_; clear hK1 K1
 have e0 : ({ H := upd h.H i (some (.cells [.row 1 (l.map encI) none, .v (.int .i64 0)])), T := h.T } : Hp) = h.st i l 0 := rfl
 rw [e0]
 (repeat (first | refine gO rfl ?_ | (refine gM zM30 fun K1 hK1 => ?_; simp only [go_sem, ↓reduceIte, reduceCtorEq, nA, nB, nC, nD, nE, nF] <;> and_intros <;> first | (apply hK1; clear hK1 K1) | (intros; first | omega | decide | (simp_all <;> omega)) | skip)))
 refine (hp1 i 0 h (by omega)).mono ?_; rintro _ _ ⟨room, hroom, rfl, rfl⟩; apply hK1; clear hK1 K1
 have hrb : 5 ≤ room ∧ room ≤ 30 := by simp at hroom; omega
 (repeat (first | refine gO rfl ?_ | (refine gM zM30 fun K1 hK1 => ?_; simp only [go_sem, ↓reduceIte, reduceCtorEq, nA, nB, nC, nD, nE, nF] <;> and_intros <;> first | (apply hK1; clear hK1 K1) | (intros; first | omega | decide | (simp_all <;> omega)) | skip)))
 refine (g_range i l (0 + 1) 1 4 h hl (by omega) (by omega) (by omega) (by omega)).mono ?_; rintro _ _ ⟨rule, hrule, rfl, rfl⟩; apply hK1; clear hK1 K1
 (repeat (first | refine gO rfl ?_ | (refine gM zM30 fun K1 hK1 => ?_; simp only [go_sem, ↓reduceIte, reduceCtorEq, nA, nB, nC, nD, nE, nF] <;> and_intros <;> first | (apply hK1; clear hK1 K1) | (intros; first | omega | decide | (simp_all <;> omega)) | skip)))
 refine (g_newCache room rule _ (by omega) hrule).mono ?_
 rintro _ _ ⟨ci, k, hci, hk, rfl, rfl⟩
 refine hK1 _ ?_; clear hK1 K1
 have hic : ci ≠ i := by rintro rfl; rw [st_at] at hci; cases hci
 obtain ⟨h1, eh1⟩ : ∃ h1 : Hp, h1 = ⟨upd (h.st i l (0 + 1 + 1)).H ci (some (.cells (encCa room rule 0 k 0))), upd (h.st i l (0 + 1 + 1)).T k (some (.cont 1 []))⟩ := ⟨_, rfl⟩
 have F1 : FitH h1 i l 2 ci k room rule 0 (⟨#[]⟩ : ByteArray) (fun _ => default) [] := by
  rw [eh1]
  exact ⟨(upd_other _ _ hic.symm).trans (st_at _ _ _ _), upd_same _ _ _, upd_same _ _ _, (fun p hp => by cases hp), (by simp), ⟨List.Pairwise.nil, (fun x hx => by cases hx), (fun x hx => by cases hx), (fun x hx => by cases hx), (fun x hx => by cases hx), (by simp [sumB]; omega), (fun e => absurd rfl e), (fun _ x hx => by cases hx)⟩⟩
 rw [← eh1]
 clear eh1 hci hk hi e0
 (repeat (first | refine gO rfl ?_ | (refine gM zM30 fun K1 hK1 => ?_; simp only [go_sem, ↓reduceIte, reduceCtorEq, nA, nB, nC, nD, nE, nF] <;> and_intros <;> first | (apply hK1; clear hK1 K1) | (intros; first | omega | decide | (simp_all <;> omega)) | skip)))
 refine awp_cond (t := _) rfl (fun h9 => by cases h9) (fun _ => ?_)
 (repeat (first | refine gO rfl ?_ | (refine gM zM30 fun K1 hK1 => ?_; simp only [go_sem, ↓reduceIte, reduceCtorEq, nA, nB, nC, nD, nE, nF] <;> and_intros <;> first | (apply hK1; clear hK1 K1) | (intros; first | omega | decide | (simp_all <;> omega)) | skip)))
 have e1 := st_of F1.st
 rw [e1]
 clear e1
 (repeat (first | refine gO rfl ?_ | (refine gM zM30 fun K1 hK1 => ?_; simp only [go_sem, ↓reduceIte, reduceCtorEq, nA, nB, nC, nD, nE, nF] <;> and_intros <;> first | (apply hK1; clear hK1 K1) | (intros; first | omega | decide | (simp_all <;> omega)) | skip)))
 refine (g_range i l 2 0 16 _ hl (by omega) (by omega) (by omega) (by omega)).mono ?_; rintro _ _ ⟨m0, hm0, rfl, rfl⟩; apply hK1; clear hK1 K1
 obtain ⟨m, rfl⟩ : ∃ m : Nat, m0 = m := ⟨m0.toNat, by omega⟩
 have F2 := F1.next (2 + 1)
 generalize h1.st i l (2 + 1) = h2 at *
 clear F1 hic
 (repeat (first | refine gO rfl ?_ | (refine gM zM30 fun K1 hK1 => ?_; simp only [go_sem, ↓reduceIte, reduceCtorEq, nA, nB, nC, nD, nE, nF] <;> and_intros <;> first | (apply hK1; clear hK1 K1) | (intros; first | omega | decide | (simp_all <;> omega)) | skip)))
 refine awp_loopC (rl false [3, 3, 1, 1, 25, 2, 69]) 0 (fun g s => ∃ (j : Nat) (a now : Int) (pin : ByteArray) (K : Nat → Kp) (ps : List Nat) (k : Nat) (h' : Hp), g + j = m ∧ 0 ≤ a ∧ a ≤ 3 + 3 * j ∧ 0 ≤ now ∧ now ≤ 2 * j ∧ (pin = (⟨#[]⟩ : ByteArray) ∨ pin ∈ nmC) ∧ FitH h' i l a ci k room rule now pin K ps ∧
  s = ⟨((jnk 3 ((.ptr i 0) :: (.v (.int .i64 room)) :: (.ptr ci 0) :: AV.junk :: ((.v (.string pin)) :: (jnk 25 ((.v (.int .i64 m)) :: (.v (.int .i64 j)) :: (jnk 69 []))))))), [], h'⟩) m ⟨0, 2 + 1, 0, _, _, _, _, _, by omega, by omega, by omega, by omega, by omega, .inl rfl, F2, rfl⟩ ?_
 rintro g _ ⟨j, a, now, pin, K, ps, k, h', hj, ha, ha2, hn, hn2, hpin, F, rfl⟩
 (repeat (first | refine gO rfl ?_ | (refine gM zM30 fun K1 hK1 => ?_; simp only [go_sem, ↓reduceIte, reduceCtorEq, nA, nB, nC, nD, nE, nF] <;> and_intros <;> first | (apply hK1; clear hK1 K1) | (intros; first | omega | decide | (simp_all <;> omega)) | skip)))
 refine awp_cond (t := _) rfl (fun h5 => ?_) (fun h5 => ?_)
 ·simp only [decide_eq_true_eq] at h5
  have e1 := st_of F.st
  rw [e1]
  clear e1
  (repeat (first | refine gO rfl ?_ | (refine gM zM30 fun K1 hK1 => ?_; simp only [go_sem, ↓reduceIte, reduceCtorEq, nA, nB, nC, nD, nE, nF] <;> and_intros <;> first | (apply hK1; clear hK1 K1) | (intros; first | omega | decide | (simp_all <;> omega)) | skip)))
  refine (hs1 i a _ (by omega)).mono ?_; rintro _ _ ⟨item, hitem, rfl, rfl⟩; apply hK1; clear hK1 K1
  (repeat (first | refine gO rfl ?_ | (refine gM zM30 fun K1 hK1 => ?_; simp only [go_sem, ↓reduceIte, reduceCtorEq, nA, nB, nC, nD, nE, nF] <;> and_intros <;> first | (apply hK1; clear hK1 K1) | (intros; first | omega | decide | (simp_all <;> omega)) | skip)))
  refine (hp2 i (a + 1) _ (by omega)).mono ?_; rintro _ _ ⟨bytes, hbytes, rfl, rfl⟩; apply hK1; clear hK1 K1
  have hbb : 1 ≤ bytes ∧ bytes ≤ 10 := by simp at hbytes; omega
  have F2 := F.next (a + 1 + 1)
  generalize h'.st i l (a + 1 + 1) = h2 at *
  clear F hbytes
  obtain ⟨hk1, hk2⟩ := nmC_key item hitem
  have hkk := fun h => a_isKey item (by omega) h
  rw [hk1] at hkk
  have hlen := F2.len
  have hBm : ∀ p ∈ ps, (1 ≤ (K p).2.1 ∧ (K p).2.1 ≤ 1000) ∧ (0 ≤ (K p).2.2.2.2.2 ∧ (K p).2.2.2.2.2 ≤ now) := fun p hp => ⟨F2.fit.pos _ (List.mem_map_of_mem hp), F2.fit.many _ (List.mem_map_of_mem hp)⟩
  have hpu := g_put (room := room) (rule := rule) (now := now) (bytes := bytes) (item := item) F2.c F2.t (by omega) F2.ks F2.ci F2.fit.one hkk (fun p hp => by have := hBm p hp; omega) (fun p hp => by have := hBm p hp; omega) (by omega) (by omega) (by omega)
  (repeat (first | refine gO rfl ?_ | (refine gM zM30 fun K1 hK1 => ?_; simp only [go_sem, ↓reduceIte, reduceCtorEq, nA, nB, nC, nD, nE, nF] <;> and_intros <;> first | (apply hK1; clear hK1 K1) | (intros; first | omega | decide | (simp_all <;> omega)) | skip)))
  refine hpu.mono ?_
  intro rp h3 hR
  unfold PutR at hR
  cases hput : putL room rule now (ps.map K) item bytes with
  | none =>
   rw [hput] at hR
   obtain ⟨rfl, hH, hT⟩ := hR
   have F3 : FitH h3 i l (a + 1 + 1) ci k room rule now pin K ps := by
    obtain ⟨H3, T3⟩ := h3
    simp only at hH; subst hH
    exact F2.same hT
   refine hK1 _ ?_; clear hK1 K1
   (repeat (first | refine gO rfl ?_ | (refine gM zM30 fun K1 hK1 => ?_; simp only [go_sem, ↓reduceIte, reduceCtorEq, nA, nB, nC, nD, nE, nF] <;> and_intros <;> first | (apply hK1; clear hK1 K1) | (intros; first | omega | decide | (simp_all <;> omega)) | skip)))
   refine awp_cond (t := _) rfl (fun _ => ?_) (fun h9 => by cases h9)
   (repeat (first | refine gO rfl ?_ | (refine gM zM30 fun K1 hK1 => ?_; simp only [go_sem, ↓reduceIte, reduceCtorEq, nA, nB, nC, nD, nE, nF] <;> and_intros <;> first | (apply hK1; clear hK1 K1) | (intros; first | omega | decide | (simp_all <;> omega)) | skip)))
   exact ⟨g - 1, by omega, j + 1, a + 1 + 1, now, pin, K, ps, k, h3, by omega, by omega, by omega, by omega, by omega, hpin, F3, rfl⟩
  | some y =>
   obtain ⟨L', gn⟩ := y
   rw [hput] at hR
   have hgnl : gn.length ≤ ps.length := by have := putL_gone hput; rw [List.length_map] at this; exact this
   obtain ⟨K2, ps2, k2, kt, rfl, hL, hK2, hC2, hT2, hcp2, hHk, hTk⟩ := hR
   refine hK1 _ ?_; clear hK1 K1
   obtain ⟨fit2, has2, hgone, hf0, hf1⟩ := F2.fit.put hn hitem (by omega) hput nmC_ne
   rw [← hL] at fit2 has2 hf0 hf1
   have F3 : FitH h3 i l (a + 1 + 1) ci k2 room rule (now + 1) pin K2 ps2 :=
    ⟨(hHk i (by rw [F2.st]; simp) (fun e => F2.ici e.symm) (fun hm => F2.ips i hm rfl)).trans F2.st, hC2, hT2, hK2, hcp2, fit2⟩
   clear F2 hTk hHk hpu hput
   (repeat (first | refine gO rfl ?_ | (refine gM zM30 fun K1 hK1 => ?_; simp only [go_sem, ↓reduceIte, reduceCtorEq, nA, nB, nC, nD, nE, nF] <;> and_intros <;> first | (apply hK1; clear hK1 K1) | (intros; first | omega | decide | (simp_all <;> omega)) | skip)))
   refine awp_cond (t := _) rfl (fun h9 => by cases h9) (fun _ => ?_)
   obtain ⟨x, hx, hxk⟩ := hasL_iff.1 has2
   obtain ⟨p, hp, rfl⟩ := List.mem_map.1 hx
   have hlen3 := F3.len
   have hBm3 : ∀ p ∈ ps2, (1 ≤ (K2 p).2.1 ∧ (K2 p).2.1 ≤ 1000) ∧ (0 ≤ (K2 p).2.2.2.2.2 ∧ (K2 p).2.2.2.2.2 ≤ now + 1) := fun p hp => ⟨F3.fit.pos _ (List.mem_map_of_mem hp), F3.fit.many _ (List.mem_map_of_mem hp)⟩
   have hask := g_askC (now := now + 1) F3.c F3.t (by omega) F3.ks F3.ci F3.fit.one hp hxk hkk (by omega) (by have := hBm3 p hp; omega)
   (repeat (first | refine gO rfl ?_ | (refine gM zM30 fun K1 hK1 => ?_; simp only [go_sem, ↓reduceIte, reduceCtorEq, nA, nB, nC, nD, nE, nF] <;> and_intros <;> first | (apply hK1; clear hK1 K1) | (intros; first | omega | decide | (simp_all <;> omega)) | skip)))
   refine hask.mono ?_; rintro _ hz ⟨rfl, hh⟩; apply hK1; clear hK1 K1; rw [hh]; clear hh hz
   have F4 := F3.ask hp
   have hps4 : ps2.map (fun q => if q = p then askF (now + 1 + 1) (K2 p) else K2 q) = atK (K2 p).1 (fun x => askF (now + 1 + 1) x) (ps2.map K2) := atK_map (item := (K2 p).1) (fun x => askF (now + 1 + 1) x) F3.fit.one hp rfl
   have hsum4 : sumB (ps2.map fun q => if q = p then askF (now + 1 + 1) (K2 p) else K2 q) = sumB (ps2.map K2) := by rw [hps4]; exact sum_atF (f := askF (now + 1 + 1)) (fun _ => rfl) _
   rw [← hsum4] at hf0 hf1
   have hp4 : (if p = p then askF (now + 1 + 1) (K2 p) else K2 p).1 = item := by rw [if_pos rfl]; exact hxk
   clear F3 hask hps4 hsum4 hBm3 has2 hx fit2 hL hK2 hC2 hT2
   generalize (⟨upd (upd h3.H ci (some (.cells (encCa room rule (now + 1 + 1) k2 ps2.length)))) p (some (.cells (encKp (askF (now + 1 + 1) (K2 p))))), h3.T⟩ : Hp) = h4 at *
   generalize hK4 : (fun q => if q = p then askF (now + 1 + 1) (K2 p) else K2 q) = K4 at *
   replace hp4 : (K4 p).1 = item := by rw [← hK4]; exact hp4
   clear hK4
   have hrow : gn.map encNm = (gn.map fun x : Kp => x.1).map encS := by rw [List.map_map]; rfl
   have hgi : ((gn.map fun x : Kp => x.1).any fun y => item == y) = false := has_no fun x hx => by
    obtain ⟨z, hz, rfl⟩ := List.mem_map.1 hx; exact (hgone z hz).1
   have hgp : ((gn.map fun x : Kp => x.1).any fun y => pin == y) = false := has_no fun x hx => by
    obtain ⟨z, hz, rfl⟩ := List.mem_map.1 hx; exact (hgone z hz).2
   have hBm4 : ∀ p ∈ ps2, (1 ≤ (K4 p).2.1 ∧ (K4 p).2.1 ≤ 1000) := fun p hp => F4.fit.pos _ (List.mem_map_of_mem hp)
   have hgl : (gn.map fun x : Kp => x.1).length ≤ 100000 := by rw [List.length_map]; exact Nat.le_trans hgnl (by omega)
   have hc1 := fun h => g_hasS (gn.map fun x : Kp => x.1) item (some kt) h hgl
   have hc2 := fun h => g_hasS (gn.map fun x : Kp => x.1) pin (some kt) h hgl
   rw [hgi, ← hrow] at hc1
   rw [hgp, ← hrow] at hc2
   have hfr := g_freeC F4.c F4.t (by omega) F4.ks (fun p hp => by have := hBm4 p hp; omega) (show 0 ≤ room ∧ room ≤ 1000000000000 by omega)
   obtain ⟨fr, hfe⟩ : ∃ fr, room - sumB (ps2.map K4) = fr := ⟨_, rfl⟩
   rw [hfe] at hfr hf0 hf1
   have hd1 : decide (fr < 0) = false := by simp; omega
   have hd2 : decide (room ≤ fr) = false := by simp; omega
   (repeat (first | refine gO rfl ?_ | (refine gM zM30 fun K1 hK1 => ?_; simp only [go_sem, ↓reduceIte, reduceCtorEq, nA, nB, nC, nD, nE, nF] <;> and_intros <;> first | (apply hK1; clear hK1 K1) | (intros; first | omega | decide) | skip)))
   rotate_left
   ·intro h9; exact absurd h9 (by decide)
   intro h9
   refine ⟨h9, ?_⟩
   refine (hc1 _).mono ?_
   rintro _ _ ⟨rfl, rfl⟩
   refine ⟨rfl, hK1 _ ?_⟩; clear hK1 K1 h9
   (repeat (first | refine gO rfl ?_ | (refine gM zM30 fun K1 hK1 => ?_; simp only [go_sem, ↓reduceIte, reduceCtorEq, nA, nB, nC, nD, nE, nF] <;> and_intros <;> first | (apply hK1; clear hK1 K1) | (intros; first | omega | decide) | skip)))
   rotate_left
   ·intro h9; exact absurd h9 (by decide)
   intro h9
   refine ⟨h9, ?_⟩
   refine (hc2 _).mono ?_
   rintro _ _ ⟨rfl, rfl⟩
   refine ⟨rfl, hK1 _ ?_⟩; clear hK1 K1 h9
   (repeat (first | refine gO rfl ?_ | (refine gM zM30 fun K1 hK1 => ?_; simp only [go_sem, ↓reduceIte, reduceCtorEq, nA, nB, nC, nD, nE, nF] <;> and_intros <;> first | (apply hK1; clear hK1 K1) | (intros; first | omega | decide) | skip)))
   rotate_left
   ·intro h9; exact absurd h9 (by decide)
   intro h9
   refine ⟨h9, ?_⟩
   refine hfr.mono ?_
   rintro _ _ ⟨rfl, rfl⟩
   refine ⟨rfl, hK1 _ ?_⟩; clear hK1 K1 h9
   (repeat (first | refine gO rfl ?_ | (refine gM zM30 fun K1 hK1 => ?_; simp only [go_sem, ↓reduceIte, reduceCtorEq, nA, nB, nC, nD, nE, nF, hd1, hd2] <;> and_intros <;> first | (apply hK1; clear hK1 K1) | (intros; first | omega | decide) | skip)))
   rotate_left
   ·intro h9; exact absurd h9 (by decide)
   intro h9
   refine ⟨h9, ?_⟩
   refine hfr.mono ?_
   rintro _ _ ⟨rfl, rfl⟩
   refine ⟨rfl, hK1 _ ?_⟩; clear hK1 K1 h9
   (repeat (first | refine gO rfl ?_ | (refine gM zM30 fun K1 hK1 => ?_; simp only [go_sem, ↓reduceIte, reduceCtorEq, nA, nB, nC, nD, nE, nF, hd1, hd2] <;> and_intros <;> first | (apply hK1; clear hK1 K1) | (intros; first | omega | decide) | skip)))
   refine awp_cond (t := _) rfl (fun h9 => by cases h9) (fun _ => ?_)
   clear hfr hc1 hc2 hd1 hd2
   (repeat (first | refine gQ rfl ?_ | (refine gM zM30 fun K1 hK1 => ?_; simp only [go_sem, ↓reduceIte, reduceCtorEq, nA, nB, nC, nD, nE, nF] <;> and_intros <;> first | (apply hK1; clear hK1 K1) | (intros; first | omega | decide | (simp_all <;> omega)) | skip)))
   refine awp_seq ?_
   refine awp_join (rl false [3, 3, 1, 1, 25, 2, 69]) 0 (fun s => ∃ (a' : Int) (pin' : ByteArray) (K' : Nat → Kp) (h5 : Hp), a + 1 + 1 ≤ a' ∧ a' ≤ a + 3 ∧ (pin' = (⟨#[]⟩ : ByteArray) ∨ pin' ∈ nmC) ∧ FitH h5 i l a' ci k2 room rule (now + 1 + 1) pin' K' ps2 ∧
    s = ⟨((jnk 3 ((.ptr i 0) :: (.v (.int .i64 room)) :: (.ptr ci 0) :: AV.junk :: ((.v (.string pin')) :: (jnk 25 ((.v (.int .i64 m)) :: (.v (.int .i64 j)) :: (jnk 69 []))))))), [], h5⟩) ?_ ?_
   ·by_cases hpe : pin = (⟨#[]⟩ : ByteArray)
    ·subst hpe
     have e4 := st_of F4.st
     rw [e4]
     clear e4
     (repeat (first | refine gO rfl ?_ | (refine gM zM30 fun K1 hK1 => ?_; simp only [go_sem, ↓reduceIte, reduceCtorEq, nA, nB, nC, nD, nE, nF] <;> and_intros <;> first | (apply hK1; clear hK1 K1) | (intros; first | omega | decide) | skip)))
     rotate_left
     ·intro h9; exact absurd h9 (by decide)
     intro h9
     refine ⟨h9, ?_⟩
     refine (g_flip i l (a + 1 + 1) 4 _ hl (by omega) (by omega)).mono ?_
     rintro _ _ ⟨b, rfl, rfl⟩
     refine ⟨rfl, hK1 _ ?_⟩; clear hK1 K1 h9
     have F5 := F4.next (a + 1 + 1 + 1)
     cases b with
     | false =>
      (repeat (first | refine gO rfl ?_ | (refine gM zM30 fun K1 hK1 => ?_; simp only [go_sem, ↓reduceIte, reduceCtorEq, nA, nB, nC, nD, nE, nF] <;> and_intros <;> first | (apply hK1; clear hK1 K1) | (intros; first | omega | decide) | skip)))
      refine awp_cond (t := _) rfl (fun h9 => by cases h9) (fun _ => ?_)
      (repeat (first | refine gO rfl ?_ | (refine gM zM30 fun K1 hK1 => ?_; simp only [go_sem, ↓reduceIte, reduceCtorEq, nA, nB, nC, nD, nE, nF] <;> and_intros <;> first | (apply hK1; clear hK1 K1) | (intros; first | omega | decide) | skip)))
      exact ⟨_, _, _, _, by omega, by omega, .inl rfl, F5, rfl⟩
     | true =>
      have hfrp := F5.fit.free rfl _ (List.mem_map_of_mem hp)
      have hpi := g_pinC F5.c F5.t (by omega) F5.ks F5.fit.one hp hp4 hkk hfrp
      (repeat (first | refine gO rfl ?_ | (refine gM zM30 fun K1 hK1 => ?_; simp only [go_sem, ↓reduceIte, reduceCtorEq, nA, nB, nC, nD, nE, nF] <;> and_intros <;> first | (apply hK1; clear hK1 K1) | (intros; first | omega | decide) | skip)))
      refine awp_cond (t := _) rfl (fun _ => ?_) (fun h9 => by cases h9)
      (repeat (first | refine gO rfl ?_ | (refine gM zM30 fun K1 hK1 => ?_; simp only [go_sem, ↓reduceIte, reduceCtorEq, nA, nB, nC, nD, nE, nF] <;> and_intros <;> first | (apply hK1; clear hK1 K1) | (intros; first | omega | decide) | skip)))
      refine hpi.mono ?_; rintro _ hz ⟨rfl, hh⟩; apply hK1; clear hK1 K1; rw [hh]; clear hh hz
      (repeat (first | refine gO rfl ?_ | (refine gM zM30 fun K1 hK1 => ?_; simp only [go_sem, ↓reduceIte, reduceCtorEq, nA, nB, nC, nD, nE, nF] <;> and_intros <;> first | (apply hK1; clear hK1 K1) | (intros; first | omega | decide) | skip)))
      refine awp_cond (t := _) rfl (fun h9 => by cases h9) (fun _ => ?_)
      (repeat (first | refine gO rfl ?_ | (refine gM zM30 fun K1 hK1 => ?_; simp only [go_sem, ↓reduceIte, reduceCtorEq, nA, nB, nC, nD, nE, nF] <;> and_intros <;> first | (apply hK1; clear hK1 K1) | (intros; first | omega | decide) | skip)))
      have F6 := F5.pins hp (fun e => nmC_ne (by rw [← e, hp4]; exact hitem))
      rw [hp4] at F6
      exact ⟨_, _, _, _, by omega, by omega, .inr hitem, F6, rfl⟩
    ·have hpf : (pin == (⟨#[]⟩ : ByteArray)) = false := by rw [ba_beq, decide_eq_false_iff_not]; exact hpe
     (repeat (first | refine gO rfl ?_ | (refine gM zM30 fun K1 hK1 => ?_; simp only [go_sem, ↓reduceIte, reduceCtorEq, nA, nB, nC, nD, nE, nF] <;> and_intros <;> first | (apply hK1; clear hK1 K1) | (intros; first | omega | decide) | skip)))
     ·intro h9; rw [hpf] at h9; cases h9
     intro h9
     refine hK1 _ ?_; clear hK1 K1 h9
     (repeat (first | refine gO rfl ?_ | (refine gM zM30 fun K1 hK1 => ?_; simp only [go_sem, ↓reduceIte, reduceCtorEq, nA, nB, nC, nD, nE, nF, hpf] <;> and_intros <;> first | (apply hK1; clear hK1 K1) | (intros; first | omega | decide) | skip)))
     refine awp_cond (t := _) rfl (fun h9 => by cases h9) (fun _ => ?_)
     (repeat (first | refine gO rfl ?_ | (refine gM zM30 fun K1 hK1 => ?_; simp only [go_sem, ↓reduceIte, reduceCtorEq, nA, nB, nC, nD, nE, nF] <;> and_intros <;> first | (apply hK1; clear hK1 K1) | (intros; first | omega | decide) | skip)))
     exact ⟨_, _, _, _, by omega, by omega, hpin, F4, rfl⟩
   rintro _ ⟨a', pin', K', h5, hb1, hb2, hpin', F5, rfl⟩
   have hlen5 := F5.len
   have hor := g_orderC F5.c F5.t (by omega) F5.ks
   have hno := F5.fit.order (rule := rule)
   (repeat (first | refine gO rfl ?_ | (refine gM zM30 fun K1 hK1 => ?_; simp only [go_sem, ↓reduceIte, reduceCtorEq, nA, nB, nC, nD, nE, nF] <;> and_intros <;> first | (apply hK1; clear hK1 K1) | (intros; first | omega | decide) | skip)))
   refine hor.mono ?_
   rintro _ ⟨H6, T6⟩ ⟨kt6, rfl, hH6, hT6⟩
   simp only at hH6 hT6
   subst hH6
   refine hK1 _ ?_; clear hK1 K1 hor
   have F6 := F5.same hT6
   have hc6 := fun h => g_hasS ((orderL rule (ps2.map K')).map fun x : Kp => x.1) pin' (some kt6) h (by have := orderL_len rule (ps2.map K'); rw [List.length_map] at *; omega)
   have hc7 : (((orderL rule (ps2.map K')).map fun x : Kp => x.1).any fun y => pin' == y) = false := has_no fun x hx => by
    obtain ⟨z, hz, rfl⟩ := List.mem_map.1 hx; exact hno z hz
   rw [hc7] at hc6
   (repeat (first | refine gO rfl ?_ | (refine gM zM30 fun K1 hK1 => ?_; simp only [go_sem, ↓reduceIte, reduceCtorEq, nA, nB, nC, nD, nE, nF] <;> and_intros <;> first | (apply hK1; clear hK1 K1) | (intros; first | omega | decide) | skip)))
   refine (hc6 _).mono ?_; rintro _ hz ⟨rfl, hh⟩; apply hK1; clear hK1 K1; rw [hh]; clear hh hz
   (repeat (first | refine gO rfl ?_ | (refine gM zM30 fun K1 hK1 => ?_; simp only [go_sem, ↓reduceIte, reduceCtorEq, nA, nB, nC, nD, nE, nF] <;> and_intros <;> first | (apply hK1; clear hK1 K1) | (intros; first | omega | decide) | skip)))
   refine awp_cond (t := _) rfl (fun h9 => by cases h9) (fun _ => ?_)
   (repeat (first | refine gO rfl ?_ | (refine gM zM30 fun K1 hK1 => ?_; simp only [go_sem, ↓reduceIte, reduceCtorEq, nA, nB, nC, nD, nE, nF] <;> and_intros <;> first | (apply hK1; clear hK1 K1) | (intros; first | omega | decide) | skip)))
   exact ⟨g - 1, by omega, j + 1, a', now + 1 + 1, pin', K', ps2, k2, _, by omega, by omega, by omega, by omega, by omega, hpin', F6, rfl⟩
 ·simp only [decide_eq_false_iff_not] at h5
  (repeat (first | refine gO rfl ?_ | (refine gM zM30 fun K1 hK1 => ?_; simp only [go_sem, ↓reduceIte, reduceCtorEq, nA, nB, nC, nD, nE, nF] <;> and_intros <;> first | (apply hK1; clear hK1 K1) | (intros; first | omega | decide | (simp_all <;> omega)) | skip)))
  refine (g_ready _).mono ?_
  rintro _ h9 rfl
  refine hK1 _ ?_; clear hK1 K1
  (repeat (first | refine gO rfl ?_ | (refine gM zM30 fun K1 hK1 => ?_; simp only [go_sem, ↓reduceIte, reduceCtorEq, nA, nB, nC, nD, nE, nF] <;> and_intros <;> first | (apply hK1; clear hK1 K1) | (intros; first | omega | decide | (simp_all <;> omega)) | skip)))
  simp only [Tryz.results5, go_sem, ↓reduceIte, reduceCtorEq, nA, nB, nC, nD, nE, nF]
  exact ⟨_, _, Weak.refl _, Hp.le.refl _, rfl⟩
end Go.Proofs.YtgnknjlgcinboaaGreatDoor
