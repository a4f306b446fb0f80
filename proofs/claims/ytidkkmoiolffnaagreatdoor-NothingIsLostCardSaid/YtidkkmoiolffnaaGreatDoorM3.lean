/- Stream.RightLoop: a right loop. -/
import Derived.Test.YtidkkmoiolffnaaGreatDoorM2
import Derived.Test.YtidkkmoiolffnaaGreatDoorAvOwn
import Derived.Test.YtidkkmoiolffnaaGreatDoorAvRun
import Derived.Lib.SlicesCompact
import Derived.Sort.KeysCollected
import Derived.Lib.Hide
import Derived.Test.YtidkkmoiolffnaaGreatDoorShelf
import Derived.Lib.OwnBridge
import Derived.Test.YtidkkmoiolffnaaGreatDoorAvOld
import Derived.Shelf.SlIter.Nil
import Derived.Shelf.SortM.Plain
import Derived.Shelf.SortM.SortNone
import Derived.Ground.GgzProg
import Derived.Ground.SlgmProg
import Derived.Test.YtidkkmoiolffnaaGreatDoorProg
import Derived.Test.YtidkkmoiolffnaaGreatDoorAvFz
namespace Go.Proofs.YtidkkmoiolffnaaGreatDoor
open Go
set_option linter.unusedVariables false
set_option linter.unusedSimpArgs false
open Nat renaming reduceAdd→nA,reduceSub→nB,reduceMul→nC,reduceLT→nD,reduceLeDiff→nE,reduceEqDiff→nF,reduceMod→nG,reduceDiv→nH,reducePow→nI
abbrev zM30:Option Tmp→Nat:=mdL [(1,1)]
abbrev zM31:Option Tmp→Nat:=mdL [(4,1),(6,1),(8,1)]
abbrev zM32:Option Tmp→Nat:=mdL [(4,1)]
abbrev zM33:Option Tmp→Nat:=mdL []
abbrev zM34:Option Tmp→Nat:=mdL [(1,2)]
abbrev zM35:Option Tmp→Nat:=mdL [(2,1),(6,1),(8,1),(12,2)]
abbrev zM36:Option Tmp→Nat:=mdL [(5,1),(22,2)]
abbrev zM37:Option Tmp→Nat:=mdL [(8,1)]
abbrev zK30:Nat:=154742654650856545879597411
attribute [go_sem] zM30 zM31 zM32 zM33 zM34 zM35 zM36 zM37 zK30
abbrev zP1BE:List Nat:=[0,1,3,4]
abbrev zP1BP:List (Nat × List Nat × List Nat):=[(2,[3],[]),(5,[],[6]),(7,[],[])]
abbrev zP1CE:List Nat:=[0,1,2,3]
abbrev zP1CP:List (Nat × List Nat × List Nat):=[(4,[0],[5]),(6,[],[]),(8,[],[])]
abbrev zP1DE:List Nat:=[0,1,2,3]
abbrev zP1DP:List (Nat × List Nat × List Nat):=[(4,[1],[5]),(6,[],[7]),(8,[],[])]
attribute [go_sem] zP1BE zP1BP zP1CE zP1CP zP1DE zP1DP
set_option maxRecDepth 100000
set_option maxHeartbeats 8000000
theorem g_itemK (i:Nat) (l:List Int) (a:Int) (h:Hp) (hl:SOk l) (ha:0≤a∧a≤900000000) :
  ACalls Tryz.prog 66 [.ref [.ptr i 0] 0] (h.st i l a) (fun r h'=>∃ t,RT 1 t∧r=.agg (encX t)∧h'=h.st i l (a+2)):=by
 refine gE Tryz.func66 rfl (by kernel_rfl) 8 rfl fun c=>?_
 (repeat (first|refine gO rfl ?_|((first|refine gM zM30 ?_|((with_reducible refine xS ?_);refine uD 1 zM30 zP1BE zP1BP 9 rfl (by kernel_rfl) ?_))<;>((try with_reducible intro K1 hK1);simp only [go_sem,↓reduceIte,reduceCtorEq,nA,nB,nC,nD,nE,nF]<;>and_intros<;>first|(apply hK1;clear hK1 K1)|(intros;(decide))|skip))))
 refine (g_some i l a [⟨#[105,97]⟩,⟨#[105,97]⟩,⟨#[105,98]⟩,⟨#[105,99]⟩,⟨#[110,97]⟩] none h hl (by omega) (by simp)).mono ?_;rintro _ _ ⟨x,hx,rfl,rfl⟩;apply hK1;clear hK1 K1
 (repeat (((first|refine gM zM30 ?_|(with_reducible refine wM ?_ ?_))<;>((try with_reducible intro K1 hK1);simp only [go_sem,↓reduceIte,reduceCtorEq,nA,nB,nC,nD,nE,nF]<;>and_intros<;>first|(apply hK1;clear hK1 K1)|(intros;(simp_all<;>omega))|skip))))
 refine (g_pick i l (a+1) [1000,2000,5000] none h hl (by omega) (by simp)).mono ?_;rintro _ _ ⟨y,hy,rfl,rfl⟩;apply hK1;clear hK1 K1
 (repeat (first|refine gO rfl ?_|((first|refine gM zM30 ?_|(with_reducible refine wM ?_ ?_))<;>((try with_reducible intro K1 hK1);simp only [go_sem,↓reduceIte,reduceCtorEq,nA,nB,nC,nD,nE,nF]<;>and_intros<;>(apply hK1;clear hK1 K1)))))
 simp only [Tryz.results66,go_sem,↓reduceIte,reduceCtorEq,nA,nB,nC,nD,nE,nF]
 refine ⟨_,_,Weak.refl _,Hp.le.refl _,.mk 1 x y 0 [] [],?_,by rw [encX_eq];rfl,by rw [show a+1+1=a+2 by omega]⟩
 simp at hx hy
 refine .inl ⟨rfl,?_,by omega,rfl,rfl,rfl⟩
 rcases hx with rfl|rfl|rfl|rfl<;>simp [itemsR]
def costR:Nat→Int
 | 0=>20
 | n+1=>20+3 * (costR n+10)
theorem costR_ge:∀ d,20≤costR d
 | 0=>Int.le_refl _
 | n+1=>by have:=costR_ge n;show 20≤20+3 * (costR n+10);omega
def RightIK (d:Nat) (deep:Int) (i:Nat) (l:List Int) (h:Hp) (kd mn many a':Int) (k1:Nat) (g:Nat) (s:St):Prop :=
 ∃ (kids:List LT) (shares:List Int) (S:AV) (T2:Nat→Option TO) (a2:Int),(g:Int)+kids.length=many∧T2 k1=some (.tail kids.length) ∧
  (kd=4∧(∃ k2,k2≠k1∧h.T k2=none∧S=.row 1 (shares.map encI) (some k2)∧T2 k2=some (.tail shares.length)∧shares.length=kids.length)∨kd≠4∧shares=[]∧S=.v (.slice none 0 0)) ∧
  (∀ k,h.T k≠none→T2 k=h.T k)∧(∀ t∈kids,RT (d+1) t)∧(∀ x∈shares,1≤x∧x≤4)∧(a'≤a2∧a2≤a'+kids.length * (costR d+3)) ∧
  s=⟨(AV.junk :: ((.v (.int .i64 deep)) :: (.ref [.ptr i 0] 0) :: AV.junk :: ((.loc 0 0) :: AV.junk :: ((.loc 1 0) :: (jnk 25 ((.v (.int .i64 many)) :: (.v (.int .i64 kids.length)) :: (jnk 42 []))))))),
   [[.v (.int .i64 0),.v (.string { data:=#[] }),.v (.int .i64 0),.v (.int .i64 0),.v (.slice none 0 0),.v (.slice none 0 0)],[.v (.int .i64 kd),.v (.string { data:=#[] }),.v (.int .i64 0),.v (.int .i64 mn),.row 6 (kids.map encX) (some k1),S]],Hp.st ⟨h.H,T2⟩ i l a2⟩
theorem g_rightK (d:Nat):∀ (deep:Int) (_:deep≤d∧-10≤deep∧d≤100) (i:Nat) (l:List Int) (a:Int) (h:Hp) (_:SOk l) (_:0≤a∧a+costR d≤900000000),
  ACalls Tryz.prog 13 [.ptr i 0,.v (.int .i64 deep)] (h.st i l a) (fun r h'=>∃ t a',RT (d+1) t∧(a≤a'∧a'≤a+costR d)∧r=.agg (encX t)∧h'=h.st i l a'):=by
 induction d with
 | zero =>
  intro deep hd i l a h hl ha
  have hc:costR 0=20:=rfl
  refine gE Tryz.func13 rfl (by kernel_rfl) 74 rfl fun c=>?_
  (repeat (first|refine gO rfl ?_|((refine gM zM31 fun K1 hK1=>?_;simp only [go_sem,↓reduceIte,reduceCtorEq,nA,nB,nC,nD,nE,nF]<;>and_intros<;>first|(apply hK1;clear hK1 K1)|(intros;first|decide|(simp_all<;>omega))|skip))))
  intro h1
  refine hK1 _ ?_;clear hK1 K1
  (repeat (first|refine gO rfl ?_|((refine gM zM31 fun K1 hK1=>?_;simp only [go_sem,↓reduceIte,reduceCtorEq,nA,nB,nC,nD,nE,nF,h1]<;>and_intros<;>(apply hK1;clear hK1 K1)))))
  refine awp_cond (t:=_) rfl (fun _=>?_) (fun h2=>by cases h2)
  (repeat (((refine gM zM31 fun K1 hK1=>?_;simp only [go_sem,↓reduceIte,reduceCtorEq,nA,nB,nC,nD,nE,nF]<;>and_intros))))
  refine (g_itemK i l a h hl (by omega)).mono ?_;rintro _ _ ⟨t,ht,rfl,rfl⟩;apply hK1;clear hK1 K1
  have hlen:=encX_len t
  have htk:List.take 6 (encX t)=encX t:=List.take_of_length_le (Nat.le_of_eq hlen)
  (repeat (first|refine gO rfl ?_|((refine gM zM31 fun K1 hK1=>?_;simp only [go_sem,↓reduceIte,reduceCtorEq,nA,nB,nC,nD,nE,nF,hlen]<;>and_intros<;>(apply hK1;clear hK1 K1)))))
  simp only [Tryz.results13,go_sem,↓reduceIte,reduceCtorEq,nA,nB,nC,nD,nE,nF,hlen,htk]
  exact ⟨_,_,Weak.refl _,Hp.le.refl _,t,a+2,ht,by omega,rfl,rfl⟩
 | succ d ih =>
  intro deep hd i l a h hl ha
  have hc:costR (d+1)=20+3 * (costR d+10):=rfl
  have hc0:20≤costR d:=costR_ge d
  refine gE Tryz.func13 rfl (by kernel_rfl) 74 rfl fun c=>?_
  (repeat (first|refine gO rfl ?_|((refine gM zM31 fun K1 hK1=>?_;simp only [go_sem,↓reduceIte,reduceCtorEq,nA,nB,nC,nD,nE,nF]<;>and_intros<;>first|(apply hK1;clear hK1 K1)|(intros;(decide))|skip))))
  rotate_left
  ·intro h1
   refine hK1 _ ?_;clear hK1 K1
   (repeat (first|refine gO rfl ?_|((refine gM zM31 fun K1 hK1=>?_;simp only [go_sem,↓reduceIte,reduceCtorEq,nA,nB,nC,nD,nE,nF,h1]<;>and_intros<;>(apply hK1;clear hK1 K1)))))
   refine awp_cond (t:=_) rfl (fun _=>?_) (fun h2=>by cases h2)
   (repeat (((refine gM zM31 fun K1 hK1=>?_;simp only [go_sem,↓reduceIte,reduceCtorEq,nA,nB,nC,nD,nE,nF]<;>and_intros))))
   refine (g_itemK i l a h hl (by omega)).mono ?_;rintro _ _ ⟨t,ht,rfl,rfl⟩;apply hK1;clear hK1 K1
   have hlen:=encX_len t
   have htk:List.take 6 (encX t)=encX t:=List.take_of_length_le (Nat.le_of_eq hlen)
   (repeat (first|refine gO rfl ?_|((refine gM zM31 fun K1 hK1=>?_;simp only [go_sem,↓reduceIte,reduceCtorEq,nA,nB,nC,nD,nE,nF,hlen]<;>and_intros<;>(apply hK1;clear hK1 K1)))))
   simp only [Tryz.results13,go_sem,↓reduceIte,reduceCtorEq,nA,nB,nC,nD,nE,nF,hlen,htk]
   exact ⟨_,_,Weak.refl _,Hp.le.refl _,t,a+2,ht.mono (by omega),by omega,rfl,rfl⟩
  ·intro h1
   refine ⟨h1,?_⟩
   refine (g_flip i l a 5 h hl (by omega) (by omega)).mono ?_
   rintro _ _ ⟨b,rfl,rfl⟩
   refine ⟨rfl,hK1 _ ?_⟩;clear hK1 K1
   (repeat (first|refine gO rfl ?_|((refine gM zM31 fun K1 hK1=>?_;simp only [go_sem,↓reduceIte,reduceCtorEq,nA,nB,nC,nD,nE,nF,h1]<;>and_intros<;>(apply hK1;clear hK1 K1)))))
   refine awp_cond (t:=_) rfl (fun _=>?_) (fun h2=>?_)
   ·(repeat (((refine gM zM31 fun K1 hK1=>?_;simp only [go_sem,↓reduceIte,reduceCtorEq,nA,nB,nC,nD,nE,nF]<;>and_intros))))
    refine (g_itemK i l (a+1) h hl (by omega)).mono ?_;rintro _ _ ⟨t,ht,rfl,rfl⟩;apply hK1;clear hK1 K1
    have hlen:=encX_len t
    have htk:List.take 6 (encX t)=encX t:=List.take_of_length_le (Nat.le_of_eq hlen)
    (repeat (first|refine gO rfl ?_|((refine gM zM31 fun K1 hK1=>?_;simp only [go_sem,↓reduceIte,reduceCtorEq,nA,nB,nC,nD,nE,nF,hlen]<;>and_intros<;>(apply hK1;clear hK1 K1)))))
    simp only [Tryz.results13,go_sem,↓reduceIte,reduceCtorEq,nA,nB,nC,nD,nE,nF,hlen,htk]
    exact ⟨_,_,Weak.refl _,Hp.le.refl _,t,a+1+2,ht.mono (by omega),by omega,rfl,rfl⟩
   ·(repeat (first|refine gO rfl ?_|((refine gM zM31 fun K1 hK1=>?_;simp only [go_sem,↓reduceIte,reduceCtorEq,nA,nB,nC,nD,nE,nF]<;>and_intros<;>first|(intros;(decide))|skip))))
    refine (g_pick i l (a+1) [2,2,3,4,5] none h hl (by omega) (by simp)).mono ?_;rintro _ _ ⟨kd,hkd,rfl,rfl⟩;apply hK1;clear hK1 K1
    (repeat (first|refine gO rfl ?_|((refine gM zM31 fun K1 hK1=>?_;simp only [go_sem,↓reduceIte,reduceCtorEq,nA,nB,nC,nD,nE,nF]<;>and_intros<;>first|(apply hK1;clear hK1 K1)|skip))))
    refine (g_range i l (a+1+1) 1 3 h hl (by omega) (by omega) (by omega) (by omega)).mono ?_;rintro _ _ ⟨many,hmany,rfl,rfl⟩;apply hK1;clear hK1 K1
    (repeat (first|refine gO rfl ?_|((refine gM zM31 fun K1 hK1=>?_;simp only [go_sem,↓reduceIte,reduceCtorEq,nA,nB,nC,nD,nE,nF]<;>and_intros<;>(apply hK1;clear hK1 K1)))))
    have hk5:2≤kd∧kd≤5:=by simp at hkd;omega
    clear hkd
    refine awp_join (rl false [1,2,1,1,1,2,68]) 2 (fun s=>∃ mn many a':Int,(0≤mn∧mn≤3)∧(1≤many∧many≤3)∧(a≤a'∧a'≤a+4)∧((kd=5→(1≤mn∧mn≤3)∧many=1)∧(kd≠5→mn=0)) ∧
     s=⟨(AV.junk :: ((.v (.int .i64 deep)) :: (.ref [.ptr i 0] 0) :: AV.junk :: ((.loc 0 0) :: AV.junk :: ((.loc 1 0) :: (.v (.int .i64 many)) :: (jnk 68 []))))),
      [[.v (.int .i64 0),.v (.string { data:=#[] }),.v (.int .i64 0),.v (.int .i64 0),.v (.slice none 0 0),.v (.slice none 0 0)],[.v (.int .i64 kd),.v (.string { data:=#[] }),.v (.int .i64 0),.v (.int .i64 mn),.v (.slice none 0 0),.v (.slice none 0 0)]],h.st i l a'⟩) ?_ ?_
    ·refine awp_cond (t:=_) rfl (fun h5=>?_) (fun h5=>?_)
     ·(repeat (((refine gM zM31 fun K1 hK1=>?_;simp only [go_sem,↓reduceIte,reduceCtorEq,nA,nB,nC,nD,nE,nF]<;>and_intros<;>first|(intros;(decide))|skip))))
      refine (g_pick i l (a+1+1+1) [1,2,3] none h hl (by omega) (by simp)).mono ?_;rintro _ _ ⟨mn,hmn,rfl,rfl⟩;apply hK1;clear hK1 K1
      (repeat (first|refine gO rfl ?_|((refine gM zM31 fun K1 hK1=>?_;simp only [go_sem,↓reduceIte,reduceCtorEq,nA,nB,nC,nD,nE,nF]<;>and_intros<;>(apply hK1;clear hK1 K1)))))
      exact ⟨mn,1,_,by simp at hmn;omega,by omega,by omega,⟨fun _=>⟨by simp at hmn;omega,rfl⟩,fun h=>absurd (by simpa using h5) h⟩,rfl⟩
     ·(repeat ((refine gO rfl ?_)))
      exact ⟨0,many,_,by omega,hmany,by omega,⟨fun h=>absurd h (by simpa using h5),fun _=>rfl⟩,rfl⟩
    ·rintro _ ⟨mn,many,a',hmn,hmany2,ha',hm5,rfl⟩
     refine awp_ownLoc 1 4 6 rfl rfl (fun k1 hk1=>?_)
     simp only [List.set_cons_zero,List.set_cons_succ]
     refine awp_via (fun s=>∃ (S:AV) (T':Nat→Option TO),T' k1=some (.tail 0)∧(kd=4∧(∃ k2,k2≠k1∧h.T k2=none∧S=.row 1 [] (some k2)∧T' k2=some (.tail 0))∨kd≠4∧S=.v (.slice none 0 0))∧(∀ k,h.T k≠none→T' k=h.T k) ∧
      s=⟨(AV.junk :: ((.v (.int .i64 deep)) :: (.ref [.ptr i 0] 0) :: AV.junk :: ((.loc 0 0) :: AV.junk :: ((.loc 1 0) :: (.v (.int .i64 many)) :: (jnk 68 []))))),
       [[.v (.int .i64 0),.v (.string { data:=#[] }),.v (.int .i64 0),.v (.int .i64 0),.v (.slice none 0 0),.v (.slice none 0 0)],[.v (.int .i64 kd),.v (.string { data:=#[] }),.v (.int .i64 0),.v (.int .i64 mn),.row 6 [] (some k1),S]],Hp.st ⟨h.H,T'⟩ i l a'⟩) ?_ ?_
     rotate_left
     ·intro main
      by_cases h4:kd=4
      ·refine awp_ownLoc 1 5 1 rfl rfl (fun k2 hk2=>?_)
       simp only [List.set_cons_zero,List.set_cons_succ]
       have hne:k2≠k1:=fun e=>by subst e;simp [upd_same] at hk2
       simp only [upd_other _ _ hne] at hk2
       refine main _ ⟨_,upd (upd h.T k1 (some (.tail 0))) k2 (some (.tail 0)),by rw [upd_other _ _ hne.symm,upd_same],.inl ⟨h4,k2,hne,hk2,rfl,upd_same _ _ _⟩,fun k hk=>?_,rfl⟩
       have e1:k≠k1:=fun e=>hk (e ▸ hk1)
       have e2:k≠k2:=fun e=>hk (e ▸ hk2)
       rw [upd_other _ _ e2,upd_other _ _ e1]
      ·refine main _ ⟨_,upd h.T k1 (some (.tail 0)),upd_same _ _ _,.inr ⟨h4,rfl⟩,fun k hk=>?_,rfl⟩
       have e1:k≠k1:=fun e=>hk (e ▸ hk1)
       rw [upd_other _ _ e1]
     ·rintro _ ⟨S,T',hT1,hS,hTT,rfl⟩
      (repeat (first|refine gO rfl ?_|((refine gM zM31 fun K1 hK1=>?_;simp only [go_sem,↓reduceIte,reduceCtorEq,nA,nB,nC,nD,nE,nF]<;>and_intros<;>(apply hK1;clear hK1 K1)))))
      refine awp_loopC (rl false [1,2,1,1,1,1,25,2,42]) 2 (fun g s=>RightIK d deep i l h kd mn many a' k1 g s) many.toNat ⟨[],[],S,T',a',by simp;omega,hT1,by
       rcases hS with ⟨x1,k2,x2,x5,x3,x4⟩|⟨x1,x2⟩
       ·exact .inl ⟨x1,k2,x2,x5,x3,x4,rfl⟩
       ·exact .inr ⟨x1,rfl,x2⟩,hTT,by simp,by simp,by simp,rfl⟩ ?_
      rintro n _ ⟨kids,shares,S,T2,a2,hn,hT1,hS,hTT,hkl,hsb,ha2,rfl⟩
      have hkn:(kids.length:Int)≤3:=by omega
      have hcd:(kids.length:Int) * (costR d+3)≤3 * (costR d+3):=Int.mul_le_mul_of_nonneg_right hkn (by omega)
      (repeat (first|refine gO rfl ?_|((refine gM zM31 fun K1 hK1=>?_;simp only [go_sem,↓reduceIte,reduceCtorEq,nA,nB,nC,nD,nE,nF]<;>and_intros<;>(apply hK1;clear hK1 K1)))))
      refine awp_cond (t:=_) rfl (fun h5=>?_) (fun h5=>?_)
      rotate_left
      ·(repeat (first|refine gO rfl ?_|((refine gM zM31 fun K1 hK1=>?_;simp only [go_sem,↓reduceIte,reduceCtorEq,nA,nB,nC,nD,nE,nF]<;>and_intros<;>(apply hK1;clear hK1 K1)))))
       simp only [Tryz.results13,go_sem,↓reduceIte,reduceCtorEq,nA,nB,nC,nD,nE,nF]
       have hkl2:(kids.length:Int)=many:=by simp only [decide_eq_false_iff_not] at h5;omega
       refine ⟨_,_,?_,le_st hTT i l a2,.mk kd default 0 mn kids shares,a2,?_,by omega,rfl,rfl⟩
       ·rw [encX_eq]
        refine Weak.agg (.cons (Weak.refl _) (.cons (Weak.refl _) (.cons (Weak.refl _) (.cons (Weak.refl _) (.cons ?_ (.cons ?_ .nil))))))
        ·cases kids with
         | nil=>simp at hkl2;omega
         | cons x xs=>exact Weak.row _ _ _
        ·rcases hS with ⟨_,k2,_,_,rfl,_,h6⟩|⟨_,rfl,rfl⟩
         ·cases shares with
          | nil=>simp at h6;omega
          | cons x xs=>exact Weak.row _ _ _
         ·exact Weak.refl _
       ·refine .inr ⟨hk5,rfl,rfl,fun h8=>⟨(hm5.1 h8).1,by have:=(hm5.1 h8).2;omega⟩,hm5.2,by omega,fun h8=>?_,fun h8=>?_,hsb,hkl⟩
        ·rcases hS with ⟨_,k2,_,_,_,_,h6⟩|⟨h9,_⟩
         ·exact h6
         ·exact absurd h8 h9
        ·rcases hS with ⟨h9,_⟩|⟨_,h9,_⟩
         ·exact absurd h9 h8
         ·exact h9
      ·simp only [decide_eq_true_eq] at h5
       have hcd2:(kids.length:Int) * (costR d+3)≤2 * (costR d+3):=Int.mul_le_mul_of_nonneg_right (by omega) (by omega)
       have hd1:1≤deep:=by simp only [decide_eq_false_iff_not] at h1;omega
       (repeat (first|refine gO rfl ?_|((first|refine gM zM31 ?_|((with_reducible refine xS ?_);refine uF 10 zM31 7 zP1CE zP1CP 76 rfl (by kernel_rfl) ?_))<;>((try with_reducible intro K1 hK1);simp only [go_sem,↓reduceIte,reduceCtorEq,nA,nB,nC,nD,nE,nF]<;>and_intros<;>first|(apply hK1;clear hK1 K1)|(intros;(decide))|skip))))
       refine (g_pick i l a2 [1,1,2] none ⟨h.H,T2⟩ hl (by omega) (by simp)).mono ?_;rintro _ _ ⟨dx,hdx,rfl,rfl⟩;apply hK1;clear hK1 K1
       have hdx2:1≤dx∧dx≤2:=by simp at hdx;omega
       (repeat (((first|refine gM zM31 ?_|(with_reducible refine wM ?_ ?_))<;>((try with_reducible intro K1 hK1);simp only [go_sem,↓reduceIte,reduceCtorEq,nA,nB,nC,nD,nE,nF]<;>and_intros<;>first|(apply hK1;clear hK1 K1)|(intros;first|omega|(simp_all<;>omega))|skip))))
       refine (ih (deep - dx) (by omega) i l (a2+1) ⟨h.H,T2⟩ hl (by omega)).mono ?_;rintro _ _ ⟨t,a3,ht,ha3,rfl,rfl⟩;apply hK1;clear hK1 K1
       have hlen:=encX_len t
       (repeat (first|refine gQ rfl ?_|((first|refine gM zM31 ?_|(with_reducible refine wM ?_ ?_))<;>((try with_reducible intro K1 hK1);simp only [go_sem,↓reduceIte,reduceCtorEq,nA,nB,nC,nD,nE,nF,hlen]<;>and_intros<;>(apply hK1;clear hK1 K1)))))
       refine awp_seq ?_
       refine awp_join (rl false [1,2,1,1,1,1,1,1,23,2,42]) 3 (fun s=>∃ t a4,RT (d+1) t∧(a2≤a4∧a4≤a2+costR d+2) ∧
        s=⟨(AV.junk :: ((.v (.int .i64 deep)) :: (.ref [.ptr i 0] 0) :: AV.junk :: ((.loc 0 0) :: AV.junk :: ((.loc 1 0) :: AV.junk :: ((.loc 2 0) :: (jnk 23 ((.v (.int .i64 many)) :: (.v (.int .i64 kids.length)) :: (jnk 42 [])))))))),
         [[.v (.int .i64 0),.v (.string { data:=#[] }),.v (.int .i64 0),.v (.int .i64 0),.v (.slice none 0 0),.v (.slice none 0 0)],[.v (.int .i64 kd),.v (.string { data:=#[] }),.v (.int .i64 0),.v (.int .i64 mn),.row 6 (kids.map encX) (some k1),S],encX t],Hp.st ⟨h.H,T2⟩ i l a4⟩) ?_ ?_
       ·(repeat (first|refine gO rfl ?_|((refine gM zM31 fun K1 hK1=>?_;simp only [go_sem,↓reduceIte,reduceCtorEq,nA,nB,nC,nD,nE,nF]<;>and_intros<;>first|(apply hK1;clear hK1 K1)|skip))))
        rotate_left
        ·intro h6
         refine hK1 _ ?_;clear hK1 K1
         (repeat (first|refine gO rfl ?_|((refine gM zM31 fun K1 hK1=>?_;simp only [go_sem,↓reduceIte,reduceCtorEq,nA,nB,nC,nD,nE,nF,h6]<;>and_intros<;>(apply hK1;clear hK1 K1)))))
         refine awp_cond (t:=_) rfl (fun h7=>by cases h7) (fun h7=>?_)
         (repeat ((refine gO rfl ?_)))
         exact ⟨t,a3,ht,by omega,rfl⟩
        ·intro h6
         refine ⟨h6,?_⟩
         refine (g_flip i l a3 3 ⟨h.H,T2⟩ hl (by omega) (by omega)).mono ?_
         rintro _ _ ⟨b2,rfl,rfl⟩
         refine ⟨rfl,hK1 _ ?_⟩;clear hK1 K1
         (repeat (first|refine gO rfl ?_|((refine gM zM31 fun K1 hK1=>?_;simp only [go_sem,↓reduceIte,reduceCtorEq,nA,nB,nC,nD,nE,nF,h6]<;>and_intros<;>(apply hK1;clear hK1 K1)))))
         refine awp_cond (t:=_) rfl (fun h7=>?_) (fun h7=>?_)
         ·simp only [decide_eq_true_eq] at h6
          have hg:(kids.map encX).getD ((kids.length:Int) - 1).toNat []=encX (kids.getD ((kids.length:Int) - 1).toNat default):=getD_encX (by omega)
          have hm:kids.getD ((kids.length:Int) - 1).toNat default∈kids:=by
           rw [List.getD_eq_getElem?_getD,List.getElem?_eq_getElem (show ((kids.length:Int) - 1).toNat < kids.length by omega)]
           exact List.getElem_mem _
          generalize kids.getD ((kids.length:Int) - 1).toNat default=t2 at hg hm
          have hlen2:=encX_len t2
          have htk2:List.take 6 (encX t2)=encX t2:=List.take_of_length_le (Nat.le_of_eq hlen2)
          have hdr:List.drop 6 (encX t)=[]:=List.drop_of_length_le (Nat.le_of_eq hlen)
          (repeat (first|refine gO rfl ?_|((refine gM zM31 fun K1 hK1=>?_;simp only [go_sem,↓reduceIte,reduceCtorEq,nA,nB,nC,nD,nE,nF,hg,hlen,hlen2,htk2,hdr]<;>and_intros<;>first|(apply hK1;clear hK1 K1)|(intros;(omega))))))
          exact ⟨t2,a3+1,hkl _ hm,by omega,rfl⟩
         ·(repeat ((refine gO rfl ?_)))
          exact ⟨t,a3+1,ht,by omega,rfl⟩
       ·clear ht ha3 hlen t a3
        rintro _ ⟨t,a4,ht,ha4,rfl⟩
        have hlen:=encX_len t
        have htk:List.take 6 (encX t)=encX t:=List.take_of_length_le (Nat.le_of_eq hlen)
        (repeat (first|refine gO rfl ?_|((refine gM zM31 fun K1 hK1=>?_;simp only [go_sem,↓reduceIte,reduceCtorEq,nA,nB,nC,nD,nE,nF,hlen,htk,hT1,st_T]<;>and_intros<;>first|(apply hK1;clear hK1 K1)|(intros;first|omega|decide)))))
        rcases hS with ⟨h4,k2,hne,hk2,rfl,hT3,hsl⟩|⟨h4,rfl,rfl⟩
        ·refine awp_cond (t:=_) rfl (fun _=>?_) (fun h7=>absurd h4 (by simpa using h7))
         have hT4:upd T2 k1 (some (.tail (kids.length+1))) k2=some (.tail shares.length):=by rw [upd_other _ _ hne];exact hT3
         (repeat (((first|refine gM zM31 ?_|((with_reducible refine xR ?_);refine uE 16 zM31 zP1DE zP1DP 76 rfl (by kernel_rfl) ?_))<;>((try with_reducible intro K1 hK1);simp only [go_sem,↓reduceIte,reduceCtorEq,nA,nB,nC,nD,nE,nF,hT4,st_T]<;>and_intros<;>first|(apply hK1;clear hK1 K1)|(intros;(decide))|skip))))
         refine (g_pick i l a4 [1,1,2,3,4] none ⟨h.H,upd T2 k1 (some (.tail (kids.length+1)))⟩ hl (by omega) (by simp)).mono ?_;rintro _ _ ⟨sx,hsx,rfl,rfl⟩;apply hK1;clear hK1 K1
         (repeat (first|refine gO rfl ?_|((first|refine gM zM31 ?_|(with_reducible refine wM ?_ ?_))<;>((try with_reducible intro K1 hK1);simp only [go_sem,↓reduceIte,reduceCtorEq,nA,nB,nC,nD,nE,nF,hT4,st_T,encI]<;>and_intros<;>first|(apply hK1;clear hK1 K1)|(intros;first|omega|decide|(simp_all<;>omega))))))
         refine ⟨n - 1,by omega,kids++[t],shares++[sx],_,upd (upd T2 k1 (some (.tail (kids.length+1)))) k2 (some (.tail (shares.length+1))),a4+1,by simp;omega,by rw [upd_other _ _ hne.symm,upd_same];simp,.inl ⟨h4,k2,hne,hk2,by simp [encI];rfl,by rw [upd_same];simp,by simp;omega⟩,?_,?_,?_,?_,?_⟩
         ·intro k hk
          have e1:k≠k1:=fun e=>hk (e ▸ hk1)
          by_cases e2:k=k2
          ·subst e2;exact absurd hk2 hk
          ·rw [upd_other _ _ e2,upd_other _ _ e1];exact hTT k hk
         ·intro x hx
          rcases List.mem_append.1 hx with hx|hx
          ·exact hkl x hx
          ·simp at hx;subst hx;exact ht
         ·intro x hx
          rcases List.mem_append.1 hx with hx|hx
          ·exact hsb x hx
          ·simp at hx hsx;subst hx;omega
         ·have e9:((kids++[t]).length:Int) * (costR d+3)=kids.length * (costR d+3)+(costR d+3):=by simp [Int.add_mul]
          rw [e9];omega
         ·simp;rfl
        ·refine awp_cond (t:=_) rfl (fun h7=>absurd (by simpa using h7) h4) (fun _=>?_)
         (repeat (first|refine gO rfl ?_|((refine gM zM31 fun K1 hK1=>?_;simp only [go_sem,↓reduceIte,reduceCtorEq,nA,nB,nC,nD,nE,nF]<;>and_intros<;>first|(apply hK1;clear hK1 K1)|(intros;(omega))))))
         refine ⟨n - 1,by omega,kids++[t],[],_,upd T2 k1 (some (.tail (kids.length+1))),a4,by simp;omega,by rw [upd_same];simp,.inr ⟨h4,rfl,rfl⟩,?_,?_,?_,?_,?_⟩
         ·intro k hk
          have e1:k≠k1:=fun e=>hk (e ▸ hk1)
          rw [upd_other _ _ e1];exact hTT k hk
         ·intro x hx
          rcases List.mem_append.1 hx with hx|hx
          ·exact hkl x hx
          ·simp at hx;subst hx;exact ht
         ·simp
         ·have e9:((kids++[t]).length:Int) * (costR d+3)=kids.length * (costR d+3)+(costR d+3):=by simp [Int.add_mul]
          rw [e9];omega
         ·simp;rfl
abbrev Wn:=ByteArray × Int × Int
def encW (x:Wn):List AV:=[.v (.string x.1),.v (.int .i64 x.2.1),.v (.int .i64 x.2.2)]
def WOk (x:Wn):Prop:=x.1.size≤2∧(-5000000000000000≤x.2.1∧x.2.1≤5000000000000000)∧(-5000000000000000≤x.2.2∧x.2.2≤5000000000000000)
theorem encW_z (ws:List Wn):∀ y∈ws.map encW,y.length=3:=fun y hy=>by obtain ⟨x,_,rfl⟩:=List.mem_map.1 hy;rfl
def preL (xs:List (ByteArray × Int)) (i:Nat):Int:=((xs.map (·.2)).take i).sum
def sumL (xs:List (ByteArray × Int)):Int:=(xs.map (·.2)).sum
def Pos (xs:List (ByteArray × Int)):Prop:=∀ x∈xs,1≤x.2∧x.2≤3600000
def posF:List (ByteArray × Int)→Int→Nat
 | [],_=>0
 | x :: xs,r=>if r < x.2 then 0 else posF xs (r - x.2)+1
theorem preL_zero (xs:List (ByteArray × Int)):preL xs 0=0:=rfl
theorem preL_cons (x:ByteArray × Int) (xs:List (ByteArray × Int)) (i:Nat):preL (x :: xs) (i+1)=x.2+preL xs i:=by simp [preL]
theorem preL_all (xs:List (ByteArray × Int)):preL xs xs.length=sumL xs:=by
 rw [preL,List.take_of_length_le (by simp)];rfl
theorem preL_succ:∀ (xs:List (ByteArray × Int)) (i:Nat),i < xs.length→preL xs (i+1)=preL xs i+(xs.getD i default).2
 | [],_,h=>by simp at h
 | x :: xs,0,_=>by simp [preL]
 | x :: xs,i+1,h=>by rw [preL_cons,preL_cons,preL_succ xs i (by simpa using h)];simp;omega
theorem pos_at {xs:List (ByteArray × Int)} (h:Pos xs) {i:Nat} (hi:i < xs.length):1≤(xs.getD i default).2∧(xs.getD i default).2≤3600000:=by
 have:xs.getD i default∈xs:=by rw [List.getD_eq_getElem?_getD,List.getElem?_eq_getElem hi];exact List.getElem_mem hi
 exact h _ this
theorem preL_nonneg {xs:List (ByteArray × Int)} (h:Pos xs):∀ i,0≤preL xs i:=by
 induction xs with
 | nil=>intro i;simp [preL]
 | cons x xs ih =>
  intro i
  cases i with
  | zero=>simp [preL]
  | succ i =>
   rw [preL_cons]
   have:=h x (by simp);have:=ih (fun y hy=>h y (by simp [hy])) i;omega
theorem preL_bd {xs:List (ByteArray × Int)} (h:Pos xs) (i:Nat) (hi:i≤xs.length):0≤preL xs i∧preL xs i≤i * 3600000:=by
 induction i with
 | zero=>simp [preL]
 | succ i ih =>
  have:=ih (by omega)
  have:=pos_at h (i:=i) (by omega)
  rw [preL_succ xs i (by omega)]
  omega
theorem preL_mono {xs:List (ByteArray × Int)} (h:Pos xs) {i j:Nat} (hij:i≤j) (hj:j≤xs.length):preL xs i≤preL xs j:=by
 induction j with
 | zero =>
  obtain rfl:i=0:=by omega
  exact Int.le_refl _
 | succ j ih =>
  by_cases e:i=j+1
  ·rw [e];exact Int.le_refl _
  ·have:=ih (by omega) (by omega)
   have:=pos_at h (i:=j) (by omega)
   rw [preL_succ xs j (by omega)];omega
theorem sumL_bd {xs:List (ByteArray × Int)} (h:Pos xs):0≤sumL xs∧sumL xs≤xs.length * 3600000:=by
 rw [← preL_all];exact preL_bd h _ (Nat.le_refl _)
theorem sumL_pos {xs:List (ByteArray × Int)} (h:Pos xs) (hn:xs≠[]):1≤sumL xs:=by
 have hl:=List.length_pos_iff.2 hn
 have h1:=preL_mono h (i:=1) (j:=xs.length) (by omega) (Nat.le_refl _)
 rw [preL_all,preL_succ xs 0 hl,preL_zero] at h1
 have:=pos_at h hl
 omega
theorem posF_of {xs:List (ByteArray × Int)} (h:Pos xs):∀ {i:Nat} {r:Int},i < xs.length→preL xs i≤r→r < preL xs (i+1)→posF xs r=i:=by
 induction xs with
 | nil=>intro i r hi;simp at hi
 | cons x xs ih =>
  intro i r hi h1 h2
  have hp:Pos xs:=fun y hy=>h y (by simp [hy])
  rw [preL_cons] at h2
  rw [posF]
  cases i with
  | zero=>rw [preL_zero] at h2;rw [if_pos (by omega)]
  | succ i =>
   rw [preL_cons] at h1
   have:=preL_nonneg hp i
   rw [if_neg (by omega),ih hp (i:=i) (by simpa using hi) (by omega) (by omega)]
theorem posF_ex {xs:List (ByteArray × Int)} (h:Pos xs):∀ {r:Int},0≤r→r < sumL xs→posF xs r < xs.length∧preL xs (posF xs r)≤r∧r < preL xs (posF xs r+1):=by
 induction xs with
 | nil=>intro r h0 h1;simp [sumL] at h1;omega
 | cons x xs ih =>
  intro r h0 h1
  have hp:Pos xs:=fun y hy=>h y (by simp [hy])
  rw [posF]
  split
  ·rename_i hlt
   refine ⟨by simp,by rw [preL_zero];exact h0,by rw [preL_cons,preL_zero];omega⟩
  ·rename_i hge
   obtain ⟨q1,q2,q3⟩:=ih hp (r:=r - x.2) (by omega) (by simp only [sumL,List.map_cons,List.sum_cons] at h1 ⊢;omega)
   refine ⟨by simpa using q1,by rw [preL_cons];omega,by rw [preL_cons];omega⟩
open Go Go.Lib
def onceL (l:List (List UInt8)):List (List UInt8):=compact (l.mergeSort fun x y=>decide (x≤y))
def onceS (l:List ByteArray):List ByteArray:=(onceL (l.map (·.data.toList))).map fun l=>⟨l.toArray⟩
theorem leT:∀ a b c:List UInt8,decide (a≤b)=true→decide (b≤c)=true→decide (a≤c)=true:=fun a b c h1 h2=>by
 simp only [decide_eq_true_eq] at *;exact List.le_trans h1 h2
theorem leO:∀ a b:List UInt8,(decide (a≤b) || decide (b≤a))=true:=fun a b=>by
 simp only [Bool.or_eq_true,decide_eq_true_eq];exact List.le_total a b
theorem comp_up (d:Array (List UInt8)) (hs:∀ i j,i≤j→j < d.size→d[i]!≤d[j]!):∀ m,m≤d.size →
  (compactUpTo d m).Pairwise (fun x y=>x≤y∧x≠y)∧∀ x,x∈compactUpTo d m↔∃ j,j < m∧d[j]! = x
 | 0,_=>⟨by simp [compactUpTo],by simp [compactUpTo]⟩
 | m+1,hm=>by
  obtain ⟨h1,h2⟩:=comp_up d hs m (by omega)
  rw [compactUpTo_succ]
  cases hk:keeps d m with
  | true =>
   simp only [if_true]
   refine ⟨List.pairwise_append.2 ⟨h1,by simp,fun x hx y hy=>?_⟩,fun x=>?_⟩
   ·simp only [List.mem_singleton] at hy
    subst hy
    obtain ⟨j,hj,rfl⟩:=(h2 x).1 hx
    refine ⟨hs j m (by omega) (by omega),fun e=>?_⟩
    simp only [keeps,decide_eq_true_eq] at hk
    rcases hk with hk|hk
    ·omega
    ·have a1:=hs j (m - 1) (by omega) (by omega)
     have a2:=hs (m - 1) m (by omega) (by omega)
     rw [e] at a1
     exact hk (List.le_antisymm a1 a2)
   ·rw [List.mem_append,h2 x,List.mem_singleton]
    constructor
    ·rintro (⟨j,hj,e⟩|rfl)
     ·exact ⟨j,by omega,e⟩
     ·exact ⟨m,by omega,rfl⟩
    ·rintro ⟨j,hj,e⟩
     by_cases hjm:j=m
     ·subst hjm;exact .inr e.symm
     ·exact .inl ⟨j,by omega,e⟩
  | false =>
   simp only [Bool.false_eq_true,if_false,List.append_nil]
   refine ⟨h1,fun x=>?_⟩
   rw [h2 x]
   simp only [keeps,decide_eq_false_iff_not,not_or,ne_eq,Decidable.not_not] at hk
   constructor
   ·rintro ⟨j,hj,e⟩;exact ⟨j,by omega,e⟩
   ·rintro ⟨j,hj,e⟩
    by_cases hjm:j=m
    ·subst hjm;exact ⟨j - 1,by omega,by rw [← e,hk.2]⟩
    ·exact ⟨j,by omega,e⟩
theorem onceL_ok (l:List (List UInt8)):(onceL l).Pairwise (fun x y=>x≤y∧x≠y)∧∀ x,x∈onceL l↔x∈l:=by
 have hp:=List.pairwise_mergeSort leT leO l
 have hm:=List.mergeSort_perm l fun x y=>decide (x≤y)
 unfold onceL
 generalize (l.mergeSort fun x y=>decide (x≤y))=zs at hp hm ⊢
 have hs:∀ i j,i≤j→j < zs.toArray.size→zs.toArray[i]!≤zs.toArray[j]!:=fun i j hij hj=>by
  have hj':j < zs.length:=by simpa using hj
  have e1:zs.toArray[i]! = zs[i]:=by simp [getElem!_pos,show i < zs.length by omega]
  have e2:zs.toArray[j]! = zs[j]:=by simp [getElem!_pos,hj']
  rw [e1,e2]
  by_cases e:i=j
  ·subst e;exact List.le_refl _
  ·have:=List.pairwise_iff_getElem.1 hp i j (by omega) hj' (by omega)
   simpa using this
 obtain ⟨h1,h2⟩:=comp_up zs.toArray hs zs.length (by simp)
 refine ⟨h1,fun x=>?_⟩
 show x∈compactUpTo zs.toArray zs.length↔_
 rw [h2 x,← hm.mem_iff]
 constructor
 ·rintro ⟨j,hj,rfl⟩
  have e2:zs.toArray[j]! = zs[j]:=by simp [getElem!_pos,hj]
  rw [e2];exact List.getElem_mem hj
 ·intro hx
  obtain ⟨j,hj,e⟩:=List.getElem_of_mem hx
  exact ⟨j,hj,by rw [← e];simp [getElem!_pos,hj]⟩
theorem keys_once {ks l:List (List UInt8)} (hn:ks.Nodup) (hm:∀ x,x∈ks↔x∈l):(ks.mergeSort fun x y=>decide (x≤y))=onceL l:=by
 obtain ⟨h1,h2⟩:=onceL_ok l
 have hp:=List.pairwise_mergeSort leT leO ks
 have hk:=List.mergeSort_perm ks fun x y=>decide (x≤y)
 have hnd:(onceL l).Nodup:=h1.imp fun h=>h.2
 have hperm:(ks.mergeSort fun x y=>decide (x≤y)).Perm (onceL l):=(List.perm_ext_iff_of_nodup (hk.nodup_iff.2 hn) hnd).2 fun x=>by rw [hk.mem_iff,hm x,h2 x]
 refine List.Perm.eq_of_pairwise (le:=fun a b=>decide (a≤b)=true) (fun a b _ _ h1 h2=>?_) hp (h1.imp fun h=>by simpa using h.1) hperm
 simp only [decide_eq_true_eq] at h1 h2
 exact List.le_antisymm h1 h2
theorem onceS_mem (l:List ByteArray) (x:ByteArray):x∈onceS l↔x∈l:=by
 rw [onceS,List.mem_map]
 constructor
 ·rintro ⟨y,hy,rfl⟩
  obtain ⟨z,hz,rfl⟩:=List.mem_map.1 (((onceL_ok _).2 y).1 hy)
  exact hz
 ·intro hx
  exact ⟨x.data.toList,((onceL_ok _).2 _).2 (List.mem_map.2 ⟨x,hx,rfl⟩),rfl⟩
theorem onceS_nodup (l:List ByteArray):(onceS l).Nodup:=by
 refine List.Pairwise.map _ (fun a b h=>?_) (onceL_ok (l.map (·.data.toList))).1
 intro e
 simp only [ByteArray.mk.injEq] at e
 exact h.2 (List.toArray_inj e)
theorem nodup_len {α:Type} [DecidableEq α]:∀ (l m:List α),l.Nodup→(∀ x∈l,x∈m)→l.length≤m.length
 | [],_,_,_=>by simp
 | x :: l,m,hn,h=>by
  have hx:=h x (by simp)
  have:=nodup_len l (m.erase x) (List.nodup_cons.1 hn).2 fun y hy=>(List.mem_erase_of_ne (fun e=>by subst e;exact (List.nodup_cons.1 hn).1 hy)).2 (h y (by simp [hy]))
  rw [List.length_erase_of_mem hx] at this
  have:=List.length_pos_of_mem hx
  simp only [List.length_cons];omega
theorem onceS_len (l:List ByteArray):(onceS l).length≤l.length:=by
 have h:(onceL (l.map (·.data.toList))).length≤(l.map (·.data.toList)).length:=nodup_len _ _ ((onceL_ok _).1.imp fun h=>h.2) fun x hx=>((onceL_ok _).2 x).1 hx
 simpa [onceS] using h
def cntF (xs:List (ByteArray × Int)) (k:ByteArray):Nat:=(xs.filter fun x=>x.1 == k).length
def longF (xs:List (ByteArray × Int)) (k:ByteArray):Int:=((xs.filter fun x=>x.1 == k).map (·.2)).sum
theorem cntF_le (xs:List (ByteArray × Int)) (k:ByteArray):cntF xs k≤xs.length:=List.length_filter_le _ _
theorem longF_bd {xs:List (ByteArray × Int)} (h:Pos xs) (k:ByteArray):0≤longF xs k∧longF xs k≤xs.length * 3600000:=by
 have h1:Pos (xs.filter fun x=>x.1 == k):=fun x hx=>h x (List.mem_filter.1 hx).1
 have:=sumL_bd h1
 have:=List.length_filter_le (fun x:ByteArray × Int=>x.1 == k) xs
 unfold longF
 simp only [sumL] at *
 omega
theorem take_at (xs:List (ByteArray × Int)) (j:Nat) (h:j < xs.length):xs.take (j+1)=xs.take j++[xs.getD j default]:=by
 rw [List.take_add_one,List.getElem?_eq_getElem h,List.getD_eq_getElem?_getD,List.getElem?_eq_getElem h];rfl
theorem drop_at {α:Type} (l:List α) (j:Nat) (d:α) (h:j < l.length):l.drop j=l.getD j d :: l.drop (j+1):=by
 rw [List.drop_eq_getElem_cons h,List.getD_eq_getElem?_getD,List.getElem?_eq_getElem h];rfl
theorem cntF_yes {xs:List (ByteArray × Int)} {j:Nat} (h:j < xs.length) {k:ByteArray} (e:(xs.getD j default).1=k):cntF (xs.take (j+1)) k=cntF (xs.take j) k+1:=by
 have hb:((xs.getD j default).1 == k)=true:=by rw [ba_beq];simp only [decide_eq_true_eq];exact e
 rw [take_at xs j h,cntF,cntF,List.filter_append,List.length_append,List.filter_cons_of_pos (p:=fun x:ByteArray × Int=>x.1 == k) hb];simp
theorem cntF_no {xs:List (ByteArray × Int)} {j:Nat} (h:j < xs.length) {k:ByteArray} (e:(xs.getD j default).1≠k):cntF (xs.take (j+1)) k=cntF (xs.take j) k:=by
 have hb:¬ ((xs.getD j default).1 == k)=true:=by rw [ba_beq];simp only [decide_eq_true_eq];exact e
 rw [take_at xs j h,cntF,cntF,List.filter_append,List.length_append,List.filter_cons_of_neg (p:=fun x:ByteArray × Int=>x.1 == k) hb];simp
theorem longF_yes {xs:List (ByteArray × Int)} {j:Nat} (h:j < xs.length) {k:ByteArray} (e:(xs.getD j default).1=k):longF (xs.take (j+1)) k=longF (xs.take j) k+(xs.getD j default).2:=by
 have hb:((xs.getD j default).1 == k)=true:=by rw [ba_beq];simp only [decide_eq_true_eq];exact e
 rw [take_at xs j h,longF,longF,List.filter_append,List.map_append,List.sum_append,List.filter_cons_of_pos (p:=fun x:ByteArray × Int=>x.1 == k) hb];simp
theorem longF_no {xs:List (ByteArray × Int)} {j:Nat} (h:j < xs.length) {k:ByteArray} (e:(xs.getD j default).1≠k):longF (xs.take (j+1)) k=longF (xs.take j) k:=by
 have hb:¬ ((xs.getD j default).1 == k)=true:=by rw [ba_beq];simp only [decide_eq_true_eq];exact e
 rw [take_at xs j h,longF,longF,List.filter_append,List.map_append,List.sum_append,List.filter_cons_of_neg (p:=fun x:ByteArray × Int=>x.1 == k) hb];simp
theorem longF_zero {xs:List (ByteArray × Int)} {k:ByteArray} (h:k ∉ xs.map (·.1)):longF xs k=0∧cntF xs k=0:=by
 have e:(xs.filter fun x=>x.1 == k)=[]:=List.filter_eq_nil_iff.2 fun x hx hb=>h (List.mem_map.2 ⟨x,hx,by rw [ba_beq] at hb;simpa using hb⟩)
 rw [longF,cntF,e];exact ⟨rfl,rfl⟩
def ptrsL (f:ByteArray→Nat) (ks:List ByteArray):List (ByteArray × AV):=ks.map fun k=>(k,.ptr (f k) 0)
theorem mget_ptrs (f:ByteArray→Nat):∀ (ks:List ByteArray) (k:ByteArray),(k∈ks→mget k (ptrsL f ks)=some (.ptr (f k) 0))∧(k ∉ ks→mget k (ptrsL f ks)=none)
 | [],k=>⟨fun h=>by simp at h,fun _=>rfl⟩
 | q :: ks,k=>by
  have ih:=mget_ptrs f ks k
  simp only [ptrsL,List.map_cons,mget] at ih ⊢
  by_cases e:q=k
  ·subst e;simp
  ·rw [if_neg e]
   refine ⟨fun h=>ih.1 ?_,fun h=>ih.2 ?_⟩
   ·rcases List.mem_cons.1 h with h|h
    ·exact absurd h.symm e
    ·exact h
   ·exact fun h'=>h (List.mem_cons_of_mem _ h')
theorem mset_ptrs {f:ByteArray→Nat}:∀ {ks:List ByteArray} {k:ByteArray} (_:k ∉ ks) (x:AV),mset k x (ptrsL f ks)=ptrsL f ks++[(k,x)]
 | [],k,_,x=>rfl
 | q :: ks,k,h,x=>by
  simp only [List.mem_cons,not_or] at h
  have ih:=mset_ptrs (f:=f) h.2 x
  simp only [ptrsL,List.map_cons,mset] at ih ⊢
  rw [if_neg (Ne.symm h.1),ih];rfl
def tCell (xs:List (ByteArray × Int)) (k:ByteArray):List AV:=[.v (.int .i64 (cntF xs k)),.v (.int .i64 (longF xs k))]
structure TalI (h:Hp) (m:Nat) (ys:List (ByteArray × Int)) (S:List ByteArray) (ks:List ByteArray) (f:ByteArray→Nat):Prop where
 nd:ks.Nodup
 mem:∀ k,k∈ks↔k∈S
 map:h.H m=some (.map (ptrsL f ks))
 cell:∀ k∈ks,h.H (f k)=some (.cells (tCell ys k))
 ne:∀ k∈ks,f k≠m
 inj:∀ k∈ks,∀ q∈ks,f k=f q→k=q
theorem TalI.nil {h:Hp} {m:Nat} (hm:h.H m=some (.map [])):TalI h m [] [] [] (fun _=>0) :=
 ⟨by simp,by simp,hm,by simp,by simp,by simp⟩
theorem TalI.same {h:Hp} {m:Nat} {ys:List (ByteArray × Int)} {S ks:List ByteArray} {f:ByteArray→Nat} (t:TalI h m ys S ks f) {q:ByteArray} (hq:q∈ks):TalI h m ys (S++[q]) ks f :=
 ⟨t.nd,fun k=>by
  rw [List.mem_append,← t.mem k,List.mem_singleton]
  exact ⟨.inl,fun h=>h.elim id fun e=>by rw [e];exact hq⟩,t.map,t.cell,t.ne,t.inj⟩
theorem TalI.more {h h':Hp} {m j:Nat} {xs:List (ByteArray × Int)} {S ks:List ByteArray} {f:ByteArray→Nat} (t:TalI h m (xs.take j) S ks f) (hj:j < xs.length) {q:ByteArray} (e:(xs.getD j default).1=q) (hk:q∈ks)
  (e1:h'.H (f q)=some (.cells (tCell (xs.take (j+1)) q))) (e2:∀ i,i≠f q→h'.H i=h.H i):TalI h' m (xs.take (j+1)) S ks f where
 nd:=t.nd
 mem:=t.mem
 map:=by rw [e2 m (Ne.symm (t.ne _ hk))];exact t.map
 cell k hk':=by
  by_cases h:k=q
  ·rw [h];exact e1
  ·rw [e2 _ (fun e'=>h (t.inj _ hk' _ hk e')),t.cell k hk',tCell,tCell,cntF_no hj (by rw [e];exact Ne.symm h),longF_no hj (by rw [e];exact Ne.symm h)]
 ne:=t.ne
 inj:=t.inj
theorem TalI.born {h h':Hp} {m i:Nat} {ys:List (ByteArray × Int)} {S ks:List ByteArray} {f:ByteArray→Nat} (t:TalI h m ys S ks f) {q:ByteArray} (hk:q ∉ ks) (hi:h.H i=none)
  (e0:h'.H m=some (.map (ptrsL f ks++[(q,.ptr i 0)]))) (e1:h'.H i=some (.cells (tCell ys q))) (e2:∀ n,n≠i→n≠m→h'.H n=h.H n) :
  TalI h' m ys (S++[q]) (ks++[q]) (fun k=>if k=q then i else f k):=by
 have hfi:∀ k∈ks,f k≠i:=fun k hk' e=>by have:=t.cell k hk';rw [e,hi] at this;cases this
 have him:i≠m:=fun e=>by rw [e,t.map] at hi;cases hi
 have hne:∀ k∈ks,k≠q:=fun k hk' e=>hk (e ▸ hk')
 have hpl:ptrsL (fun k=>if k=q then i else f k) ks=ptrsL f ks:=List.map_congr_left fun k hk'=>by simp only [if_neg (hne k hk')]
 refine ⟨?_,fun k=>?_,?_,fun k hk'=>?_,fun k hk'=>?_,fun k hk' p hp e=>?_⟩
 ·rw [List.nodup_append]
  exact ⟨t.nd,by simp,fun a ha b hb e=>by simp only [List.mem_singleton] at hb;exact hk (by rw [← hb,← e];exact ha)⟩
 ·rw [List.mem_append,List.mem_append,← t.mem k]
 ·rw [e0]
  have:ptrsL (fun k=>if k=q then i else f k) (ks++[q])=ptrsL f ks++[(q,.ptr i 0)]:=by
   rw [← hpl];simp [ptrsL]
  rw [this]
 ·rcases List.mem_append.1 hk' with h1|h1
  ·have hn:=hne k h1
   simp only [if_neg hn]
   rw [e2 _ (hfi k h1) (t.ne k h1),t.cell k h1]
  ·simp only [List.mem_singleton] at h1
   subst h1;simp only [if_true];exact e1
 ·rcases List.mem_append.1 hk' with h1|h1
  ·simp only [if_neg (hne k h1)];exact t.ne k h1
  ·simp only [List.mem_singleton] at h1;subst h1;simp only [if_true];exact him
 ·rcases List.mem_append.1 hk' with h1|h1<;>rcases List.mem_append.1 hp with h2|h2
  ·simp only [if_neg (hne k h1),if_neg (hne p h2)] at e;exact t.inj k h1 p h2 e
  ·simp only [List.mem_singleton] at h2
   simp only [if_neg (hne k h1),h2,if_true] at e;exact absurd e (hfi k h1)
  ·simp only [List.mem_singleton] at h1
   simp only [if_neg (hne p h2),h1,if_true] at e;exact absurd e.symm (hfi p h2)
  ·simp only [List.mem_singleton] at h1 h2;rw [h1,h2]
abbrev zP1EE:List Nat:=[0,1,2,3,4,5,6,7,8,9,10,11,12,13]
abbrev zP1EP:List (Nat × List Nat × List Nat):=[]
abbrev zP1FE:List Nat:=[0,1,2,3,4,5,6,7,8,9,10,11,12,13]
abbrev zP1FP:List (Nat × List Nat × List Nat):=[]
attribute [go_sem] zP1EE zP1EP zP1FE zP1FP
def momB (n:Int):Bool:=decide (0≤n) && decide (n < 345686400000)
def timeE (a b:Int):Int:=if (!momB a || !momB b)=true then 1 else if decide (b < a)=true then 7 else 0
theorem timeE_zero {a b:Int} (h:timeE a b=0):0≤a∧a≤b∧b < 345686400000:=by
 unfold timeE at h
 split at h
 ·cases h
 ·rename_i h1
  split at h
  ·cases h
  ·rename_i h2
   simp only [momB,Bool.or_eq_true,Bool.not_eq_true',Bool.and_eq_false_iff,decide_eq_false_iff_not,not_or] at h1
   simp only [decide_eq_true_eq] at h2
   omega
theorem rest_bd {xs:List (ByteArray × Int)} (hp:Pos xs) (hn:xs≠[]) {a b:Int} (h:a≤b):0≤(b - a).tmod (sumL xs)∧(b - a).tmod (sumL xs) < sumL xs:=by
 have hs:=sumL_pos hp hn
 exact ⟨Int.tmod_nonneg _ (by omega),Int.tmod_lt_of_pos _ (by omega)⟩
abbrev Pl:=ByteArray × Int × Int
def longA (xs:List (ByteArray × Int)) (i:Nat):Int:=(xs.getD i default).2
def nextA (xs:List (ByteArray × Int)) (i:Nat):Nat × Int:=((i+1) % xs.length,longA xs ((i+1) % xs.length))
def behind (xs:List (ByteArray × Int)) (s:Nat × Int) (d:Int):Nat × Int:=if 0 < s.2 - d then (s.1,s.2 - d) else nextA xs s.1
def gapN (xs:List (ByteArray × Int)):Nat→Nat × Int→Int→Int→List Pl × (Nat × Int)
 | 0,s,_,_=>([],s)
 | n+1,s,a,b=>if a < b then
   let r:=gapN xs n (behind xs s (min s.2 (b - a))) (a+min s.2 (b - a)) b
   (((xs.getD s.1 default).1,a,min s.2 (b - a)) :: r.1,r.2)
  else ([],s)
def gapF (xs:List (ByteArray × Int)) (s:Nat × Int) (a b:Int):List Pl × (Nat × Int):=gapN xs (b - a).toNat s a b
def posL (xs:List (ByteArray × Int)) (r:Int):Nat × Int:=(posF xs r,longA xs (posF xs r) - (r - preL xs (posF xs r)))
def goOnF (xs:List (ByteArray × Int)) (w0 m:Int) (s:Nat × Int) (at_:Int):Nat × Int :=
 if m=4 then posL xs ((at_ - w0).tmod (sumL xs))
 else if s.2 < longA xs s.1 then (if m=3 then nextA xs s.1 else if m=2 then (s.1,longA xs s.1) else s)
 else s
structure WfS (xs:List (ByteArray × Int)) (s:Nat × Int):Prop where
 lt:s.1 < xs.length
 pos:1≤s.2
 le:s.2≤longA xs s.1
theorem longA_bd {xs:List (ByteArray × Int)} (hp:Pos xs) {i:Nat} (hi:i < xs.length):1≤longA xs i∧longA xs i≤3600000:=pos_at hp hi
theorem wf_next {xs:List (ByteArray × Int)} (hp:Pos xs) (hn:xs≠[]) (i:Nat):WfS xs (nextA xs i) :=
 have hl:=List.length_pos_iff.2 hn
 have hm:=Nat.mod_lt (i+1) hl
 ⟨hm,(longA_bd hp hm).1,Int.le_refl _⟩
theorem wf_behind {xs:List (ByteArray × Int)} (hp:Pos xs) (hn:xs≠[]) {s:Nat × Int} (h:WfS xs s) {d:Int} (hd:0≤d):WfS xs (behind xs s d):=by
 unfold behind
 split
 ·exact ⟨h.lt,by show 1≤s.2 - d;omega,by show s.2 - d≤longA xs s.1;have:=h.le;omega⟩
 ·exact wf_next hp hn _
theorem wf_first {xs:List (ByteArray × Int)} (hp:Pos xs) (hn:xs≠[]):WfS xs (0,longA xs 0) :=
 have hl:=List.length_pos_iff.2 hn
 ⟨hl,(longA_bd hp hl).1,Int.le_refl _⟩
theorem wf_posL {xs:List (ByteArray × Int)} (hp:Pos xs) {r:Int} (h0:0≤r) (h1:r < sumL xs):WfS xs (posL xs r):=by
 obtain ⟨q1,q2,q3⟩:=posF_ex hp h0 h1
 rw [preL_succ xs _ q1] at q3
 exact ⟨q1,by show 1≤longA xs (posF xs r) - (r - preL xs (posF xs r));unfold longA;omega,by show longA xs (posF xs r) - (r - preL xs (posF xs r))≤longA xs (posF xs r);omega⟩
theorem wf_goOn {xs:List (ByteArray × Int)} (hp:Pos xs) (hn:xs≠[]) {w0 m:Int} {s:Nat × Int} (h:WfS xs s) {at_:Int} (ha:w0≤at_):WfS xs (goOnF xs w0 m s at_):=by
 unfold goOnF
 split
 ·have:=rest_bd hp hn ha
  exact wf_posL hp this.1 this.2
 ·split
  ·split
   ·exact wf_next hp hn _
   ·split
    ·exact ⟨h.lt,(longA_bd hp h.lt).1,Int.le_refl _⟩
    ·exact h
  ·exact h
theorem goOn_twice {xs:List (ByteArray × Int)} {w0 m:Int} {s:Nat × Int} (a b:Int):goOnF xs w0 m (goOnF xs w0 m s a) b=goOnF xs w0 m s b:=by
 unfold goOnF
 by_cases h4:m=4
 ·simp only [if_pos h4]
 ·simp only [if_neg h4]
  by_cases hl:s.2 < longA xs s.1
  ·simp only [if_pos hl]
   by_cases h3:m=3
   ·simp only [if_pos h3,nextA]
    rw [if_neg (Int.lt_irrefl _)]
   ·simp only [if_neg h3]
    by_cases h2:m=2
    ·simp only [if_pos h2]
     rw [if_neg (Int.lt_irrefl _)]
    ·simp only [if_neg h2,if_pos hl]
  ·simp only [if_neg hl]
theorem goOn_first {xs:List (ByteArray × Int)} (hp:Pos xs) (hn:xs≠[]) (w0 m:Int):goOnF xs w0 m (0,longA xs 0) w0=(0,longA xs 0):=by
 have hl:=List.length_pos_iff.2 hn
 unfold goOnF
 split
 ·have e:posF xs 0=0:=posF_of hp hl (by rw [preL_zero];exact Int.le_refl _) (by rw [preL_succ xs 0 hl,preL_zero];have:=(pos_at hp hl).1;omega)
  rw [Int.sub_self,Int.zero_tmod,posL,e,preL_zero];simp
 ·rw [if_neg (Int.lt_irrefl _)]
theorem gapN_stop (xs:List (ByteArray × Int)) (n:Nat) (s:Nat × Int) {a b:Int} (h:b≤a):gapN xs n s a b=([],s):=by
 cases n with
 | zero=>rfl
 | succ n=>rw [gapN,if_neg (by omega)]
theorem gapF_stop (xs:List (ByteArray × Int)) (s:Nat × Int) {a b:Int} (h:b≤a):gapF xs s a b=([],s):=gapN_stop xs _ s h
theorem gapN_fuel {xs:List (ByteArray × Int)} (hp:Pos xs) (hn:xs≠[]):∀ (k n:Nat) {s:Nat × Int} {a b:Int},WfS xs s→(b - a).toNat≤k→(b - a).toNat≤n→gapN xs k s a b=gapN xs n s a b:=by
 intro k
 induction k with
 | zero=>intro n s a b _ h _;rw [gapN_stop xs 0 s (by omega),gapN_stop xs n s (by omega)]
 | succ k ih =>
  intro n s a b hw hk hn'
  by_cases hab:a < b
  ·cases n with
   | zero=>omega
   | succ n =>
    have h1:=hw.pos
    have hd:1≤min s.2 (b - a):=by omega
    rw [gapN,gapN,if_pos hab,if_pos hab,ih n (wf_behind hp hn hw (by omega)) (by omega) (by omega)]
  ·rw [gapN_stop xs _ s (by omega),gapN_stop xs _ s (by omega)]
theorem gapN_more {xs:List (ByteArray × Int)} (hp:Pos xs) (hn:xs≠[]) (n:Nat) {s:Nat × Int} {a b:Int} (hw:WfS xs s) (h:(b - a).toNat≤n):gapN xs n s a b=gapF xs s a b :=
 gapN_fuel hp hn n _ hw h (Nat.le_refl _)
theorem gapF_step {xs:List (ByteArray × Int)} (hp:Pos xs) (hn:xs≠[]) {s:Nat × Int} (hw:WfS xs s) {a b:Int} (hab:a < b) :
  gapF xs s a b=(((xs.getD s.1 default).1,a,min s.2 (b - a)) :: (gapF xs (behind xs s (min s.2 (b - a))) (a+min s.2 (b - a)) b).1,(gapF xs (behind xs s (min s.2 (b - a))) (a+min s.2 (b - a)) b).2):=by
 obtain ⟨k,hk⟩:∃ k,(b - a).toNat=k+1:=⟨(b - a).toNat - 1,by omega⟩
 have h1:=hw.pos
 have hw':=wf_behind hp hn hw (d:=min s.2 (b - a)) (by omega)
 rw [gapF,hk,gapN,if_pos hab,gapN_more hp hn k hw' (by omega)]
def tagF (l:List Pl):List (Pl × Bool):=l.map fun x=>(x,false)
def runE (xs:List (ByteArray × Int)) (w0 w1 m:Int):List Pl→Nat × Int→Int→List (Pl × Bool)
 | [],s,now=>tagF (gapF xs s now w1).1
 | c :: cs,s,now=>tagF (gapF xs s now c.2.1).1++((c.1,c.2.1,c.2.2 - c.2.1),true) :: runE xs w0 w1 m cs (goOnF xs w0 m (gapF xs s now c.2.1).2 c.2.2) c.2.2
def cutB (w0 w1:Int) (c:Pl):Pl:=(c.1,max c.2.1 w0,min c.2.2 w1)
def cutF (w0 w1:Int) (bs:List Pl):List Pl:=(bs.map (cutB w0 w1)).filter fun c=>decide (c.2.1 < c.2.2)
def Row:List Pl→Int→Int→Prop
 | [],now,w1=>now≤w1
 | c :: cs,now,w1=>now≤c.2.1∧c.2.1 < c.2.2∧Row cs c.2.2 w1
theorem Row.le:∀ {cs:List Pl} {now w1:Int},Row cs now w1→now≤w1
 | [],_,_,h=>h
 | c :: cs,now,w1,h=>by have:=Row.le h.2.2;have:=h.1;have:=h.2.1;omega
def Fills:List (Pl × Bool)→Int→Int→Prop
 | [],a,b=>a=b
 | x :: l,a,b=>x.1.2.1=a∧1≤x.1.2.2∧Fills l (a+x.1.2.2) b
theorem Fills.le:∀ {l:List (Pl × Bool)} {a b:Int},Fills l a b→a≤b
 | [],_,_,h=>Int.le_of_eq h
 | x :: l,a,b,h=>by have:=Fills.le h.2.2;have:=h.2.1;omega
theorem Fills.app:∀ {l m:List (Pl × Bool)} {a b c:Int},Fills l a b→Fills m b c→Fills (l++m) a c
 | [],m,a,b,c,h1,h2=>by
  obtain rfl:a=b:=h1
  exact h2
 | x :: l,m,a,b,c,h1,h2=>⟨h1.1,h1.2.1,Fills.app h1.2.2 h2⟩
theorem fills_gapN {xs:List (ByteArray × Int)} (hp:Pos xs) (hn:xs≠[]):∀ (n:Nat) {s:Nat × Int} {a b:Int},WfS xs s→(b - a).toNat≤n→a≤b →
  Fills (tagF (gapN xs n s a b).1) a b∧WfS xs (gapN xs n s a b).2∧∀ x∈(gapN xs n s a b).1,x.2.2≤3600000∧x.1∈xs.map (·.1):=by
 intro n
 induction n with
 | zero =>
  intro s a b hw h hab
  rw [gapN_stop xs 0 s (by omega)]
  exact ⟨by show a=b;omega,hw,by simp⟩
 | succ n ih =>
  intro s a b hw h hab
  by_cases hlt:a < b
  ·have h1:=hw.pos
   have h2:=hw.le
   have h3:=(longA_bd hp hw.lt).2
   have hd:1≤min s.2 (b - a)∧min s.2 (b - a)≤b - a∧min s.2 (b - a)≤s.2:=by omega
   obtain ⟨q1,q2,q3⟩:=ih (s:=behind xs s (min s.2 (b - a))) (a:=a+min s.2 (b - a)) (b:=b) (wf_behind hp hn hw (by omega)) (by omega) (by omega)
   rw [gapN,if_pos hlt]
   refine ⟨⟨rfl,hd.1,q1⟩,q2,fun x hx=>?_⟩
   rcases List.mem_cons.1 hx with rfl|hx
   ·refine ⟨by show min s.2 (b - a)≤3600000;omega,List.mem_map.2 ⟨xs.getD s.1 default,?_,rfl⟩⟩
    rw [List.getD_eq_getElem?_getD,List.getElem?_eq_getElem hw.lt];exact List.getElem_mem hw.lt
   ·exact q3 x hx
  ·rw [gapN_stop xs _ s (by omega)]
   exact ⟨by show a=b;omega,hw,by simp⟩
theorem fills_gap {xs:List (ByteArray × Int)} (hp:Pos xs) (hn:xs≠[]) {s:Nat × Int} {a b:Int} (hw:WfS xs s) (hab:a≤b) :
  Fills (tagF (gapF xs s a b).1) a b∧WfS xs (gapF xs s a b).2∧∀ x∈(gapF xs s a b).1,x.2.2≤3600000∧x.1∈xs.map (·.1):=fills_gapN hp hn _ hw (Nat.le_refl _) hab
theorem fills_run {xs:List (ByteArray × Int)} (hp:Pos xs) (hn:xs≠[]) {w0 w1 m:Int}:∀ {cs:List Pl} {s:Nat × Int} {now:Int},WfS xs s→w0≤now→Row cs now w1 →
  Fills (runE xs w0 w1 m cs s now) now w1∧∀ x∈runE xs w0 w1 m cs s now,x.2=false→x.1.2.2≤3600000∧x.1.1∈xs.map (·.1)
 | [],s,now,hw,h0,hr=>by
  obtain ⟨q1,_,q3⟩:=fills_gap hp hn hw (b:=w1) hr
  refine ⟨q1,fun x hx _=>?_⟩
  obtain ⟨y,hy,rfl⟩:=List.mem_map.1 hx
  exact q3 y hy
 | c :: cs,s,now,hw,h0,hr=>by
  obtain ⟨r1,r2,r3⟩:=hr
  obtain ⟨q1,q2,q3⟩:=fills_gap hp hn hw (b:=c.2.1) r1
  obtain ⟨p1,p2⟩:=fills_run (w0:=w0) (m:=m) hp hn (s:=goOnF xs w0 m (gapF xs s now c.2.1).2 c.2.2) (wf_goOn hp hn q2 (by omega)) (by omega) r3
  rw [runE]
  refine ⟨q1.app ⟨rfl,by show 1≤c.2.2 - c.2.1;omega,?_⟩,fun x hx hf=>?_⟩
  ·have e:c.2.1+(c.2.2 - c.2.1)=c.2.2:=by omega
   show Fills _ (c.2.1+(c.2.2 - c.2.1)) w1
   rw [e];exact p1
  ·rcases List.mem_append.1 hx with hx|hx
   ·obtain ⟨y,hy,rfl⟩:=List.mem_map.1 hx
    exact q3 y hy
   ·rcases List.mem_cons.1 hx with rfl|hx
    ·cases hf
    ·exact p2 x hx hf
theorem fills_ge:∀ {l:List (Pl × Bool)} {a b:Int},Fills l a b→∀ x∈l,a≤x.1.2.1∧x.1.2.1+x.1.2.2≤b∧1≤x.1.2.2
 | [],_,_,_,x,hx=>by simp at hx
 | y :: l,a,b,h,x,hx=>by
  have h1:=h.1
  have h2:=h.2.1
  rcases List.mem_cons.1 hx with rfl|hx
  ·have:=Fills.le h.2.2
   omega
  ·have:=fills_ge h.2.2 x hx
   omega
theorem fills_sorted:∀ {l:List (Pl × Bool)} {a b:Int},Fills l a b→(l.map (·.1)).Pairwise fun x y=>x.2.1 < y.2.1
 | [],_,_,_=>List.Pairwise.nil
 | y :: l,a,b,h=>by
  refine List.Pairwise.cons (fun x hx=>?_) (fills_sorted h.2.2)
  obtain ⟨z,hz,rfl⟩:=List.mem_map.1 hx
  have h3:=fills_ge h.2.2 z hz
  have h1:=h.1
  have h2:=h.2.1
  show y.1.2.1 < z.1.2.1
  omega
def ownF (l:List (Pl × Bool)):List Pl:=(l.filter fun x=>!x.2).map (·.1)
def brkF (l:List (Pl × Bool)):List Pl:=(l.filter fun x=>x.2).map (·.1)
theorem ownF_app (l m:List (Pl × Bool)):ownF (l++m)=ownF l++ownF m:=by simp [ownF]
theorem brkF_app (l m:List (Pl × Bool)):brkF (l++m)=brkF l++brkF m:=by simp [brkF]
theorem ownF_tag (l:List Pl):ownF (tagF l)=l∧brkF (tagF l)=[]:=by
 induction l with
 | nil=>exact ⟨rfl,rfl⟩
 | cons x l ih =>
  obtain ⟨h1,h2⟩:=ih
  simp only [ownF,brkF,tagF,List.map_cons,Bool.not_false,List.filter_cons_of_pos,Bool.false_eq_true,not_false_eq_true,List.filter_cons_of_neg,List.cons.injEq,true_and] at h1 h2 ⊢
  exact ⟨h1,h2⟩
theorem ownF_len (l:List (Pl × Bool)):(ownF l).length+(brkF l).length=l.length:=by
 induction l with
 | nil=>rfl
 | cons x l ih =>
  obtain ⟨x,b⟩:=x
  cases b<;>simp [ownF,brkF] at ih ⊢<;>omega
theorem own_perm (l:List (Pl × Bool)):(ownF l++brkF l).Perm (l.map (·.1)):=by
 induction l with
 | nil=>exact List.Perm.nil
 | cons x l ih =>
  obtain ⟨x,b⟩:=x
  cases b
  ·exact List.Perm.cons x ih
  ·exact List.perm_middle.trans (List.Perm.cons x ih)
theorem perm_sorted:∀ {l m:List Pl},l.Perm m→(l.Pairwise fun x y=>x.2.1≤y.2.1)→(m.Pairwise fun x y=>x.2.1 < y.2.1)→l=m
 | [],m,h,_,_=>h.nil_eq
 | x :: l,[],h,_,_=>by have:=h.length_eq;simp at this
 | x :: l,y :: m,h,h1,h2=>by
  have e:x=y:=by
   rcases List.mem_cons.1 (h.mem_iff.1 (List.mem_cons_self (a:=x) (l:=l))) with e|hx
   ·exact e
   ·rcases List.mem_cons.1 (h.mem_iff.2 (List.mem_cons_self (a:=y) (l:=m))) with e|hy
    ·exact e.symm
    ·have q1:=(List.pairwise_cons.1 h1).1 y hy
     have q2:=(List.pairwise_cons.1 h2).1 x hx
     omega
  subst e
  rw [perm_sorted (List.Perm.cons_inv h) (List.pairwise_cons.1 h1).2 (List.pairwise_cons.1 h2).2]
def Brk:List Pl→Int→Prop
 | [],_=>True
 | b :: bs,p=>p≤b.2.1∧b.2.1 < b.2.2∧b.2.2≤345686400000∧Brk bs b.2.2
theorem cutF_cons (w0 w1:Int) (b:Pl) (bs:List Pl):cutF w0 w1 (b :: bs)=if max b.2.1 w0 < min b.2.2 w1 then cutB w0 w1 b :: cutF w0 w1 bs else cutF w0 w1 bs:=by
 have e:decide ((cutB w0 w1 b).2.1 < (cutB w0 w1 b).2.2)=decide (max b.2.1 w0 < min b.2.2 w1):=rfl
 rw [cutF,List.map_cons,List.filter_cons,e]
 by_cases h:max b.2.1 w0 < min b.2.2 w1
 ·rw [if_pos h,decide_eq_true h];rfl
 ·rw [if_neg h,decide_eq_false h];rfl
theorem row_cut {w0 w1:Int}:∀ {bs:List Pl} {p now:Int},Brk bs p→now≤w1→now≤max p w0→Row (cutF w0 w1 bs) now w1
 | [],p,now,_,h1,_=>h1
 | b :: bs,p,now,h,h1,h2=>by
  obtain ⟨q1,q2,_,q4⟩:=h
  rw [cutF_cons]
  split
  ·rename_i hlt
   exact ⟨by show now≤max b.2.1 w0;omega,hlt,row_cut q4 (by show min b.2.2 w1≤w1;omega) (by show min b.2.2 w1≤max b.2.2 w0;omega)⟩
  ·exact row_cut q4 h1 (by omega)
def ofPl (l:List Pl):List (ByteArray × Int):=l.map fun x=>(x.1,x.2.2)
def lostK (W O:List (ByteArray × Int)) (k:ByteArray):Option (ByteArray × Int × Int) :=
 if ((cntF O k:Nat):Int) - (cntF W k:Nat)≠0∨longF O k - longF W k≠0 then some (k,((cntF O k:Nat):Int) - (cntF W k:Nat),longF O k - longF W k) else none
theorem filterMap_sub {α β:Type} (R:α→α→Prop) (asy:∀ x y,R x y→¬ R y x) (f:α→Option β):∀ (I K:List α),I.Pairwise R→K.Pairwise R→(∀ x∈K,x∈I)→(∀ x∈I,x ∉ K→f x=none)→K.filterMap f=I.filterMap f
 | [],K,_,_,h,_=>by
  cases K with
  | nil=>rfl
  | cons x K=>have:=h x List.mem_cons_self;simp at this
 | y :: I,[],hI,_,_,hf=>by
  rw [List.filterMap_cons,hf y List.mem_cons_self (by simp)]
  exact filterMap_sub R asy f I [] (List.pairwise_cons.1 hI).2 List.Pairwise.nil (by simp) (fun x hx _=>hf x (List.mem_cons_of_mem _ hx) (by simp))
 | y :: I,x :: K,hI,hK,h,hf=>by
  obtain ⟨i1,i2⟩:=List.pairwise_cons.1 hI
  obtain ⟨k1,k2⟩:=List.pairwise_cons.1 hK
  rcases List.mem_cons.1 (h x List.mem_cons_self) with e|hx
  ·subst e
   have ih:=filterMap_sub R asy f I K i2 k2 (fun z hz=>by
    rcases List.mem_cons.1 (h z (List.mem_cons_of_mem _ hz)) with e|hz'
    ·subst e;exact absurd (k1 z hz) (fun q=>asy _ _ q q)
    ·exact hz') (fun z hz hzk=>hf z (List.mem_cons_of_mem _ hz) (fun q=>by
    rcases List.mem_cons.1 q with e|q
    ·subst e;exact asy _ _ (i1 z hz) (i1 z hz)
    ·exact hzk q))
   rw [List.filterMap_cons,List.filterMap_cons,ih]
  ·have hy:y ∉ x :: K:=fun q=>by
    rcases List.mem_cons.1 q with e|q
    ·subst e;exact asy _ _ (i1 y hx) (i1 y hx)
    ·exact asy _ _ (k1 y q) (i1 x hx)
   have ih:=filterMap_sub R asy f I (x :: K) i2 hK (fun z hz=>by
    rcases List.mem_cons.1 (h z hz) with e|hz'
    ·subst e;exact absurd hz hy
    ·exact hz') (fun z hz hzk=>hf z (List.mem_cons_of_mem _ hz) hzk)
   rw [ih,List.filterMap_cons (a:=y),hf y List.mem_cons_self hy]
theorem lost_same {W O:List (ByteArray × Int)} {A B:List ByteArray} (hA:∀ k,k∈A↔k∈W.map (·.1)∨k∈O.map (·.1)) (hB:∀ k∈A,k∈B):(onceS A).filterMap (lostK W O)=(onceS B).filterMap (lostK W O):=by
 unfold onceS
 rw [List.filterMap_map,List.filterMap_map]
 obtain ⟨a1,a2⟩:=onceL_ok (A.map (·.data.toList))
 obtain ⟨b1,b2⟩:=onceL_ok (B.map (·.data.toList))
 refine filterMap_sub (fun x y:List UInt8=>x≤y∧x≠y) (fun x y h1 h2=>h1.2 (List.le_antisymm h1.1 h2.1)) _ _ _ b1 a1 (fun x hx=>?_) (fun x hx hn=>?_)
 ·rw [b2]
  obtain ⟨k,hk,rfl⟩:=List.mem_map.1 ((a2 x).1 hx)
  exact List.mem_map.2 ⟨k,hB k hk,rfl⟩
 ·rw [a2] at hn
  have hk:(⟨x.toArray⟩:ByteArray) ∉ A:=fun q=>hn (List.mem_map.2 ⟨_,q,by simp⟩)
  rw [hA] at hk
  simp only [not_or] at hk
  obtain ⟨w1,w2⟩:=longF_zero hk.1
  obtain ⟨o1,o2⟩:=longF_zero hk.2
  show lostK W O ⟨x.toArray⟩=none
  rw [lostK,w1,w2,o1,o2];simp
abbrev zP1GE:List Nat:=[0,1,2,3,4,5,6,7,8,9,10,11,12,13,14,15]
abbrev zP1GP:List (Nat × List Nat × List Nat):=[]
abbrev zP1HE:List Nat:=[0,1,2,3,4,5,6,7,8,9,10,11,12,13,14,15]
abbrev zP1HP:List (Nat × List Nat × List Nat):=[]
attribute [go_sem] zP1GE zP1GP zP1HE zP1HP
def badW (a b:Int):Bool:=(decide (a < 0) || decide (b≤a)) || decide (345686400000 < b)
def brkL:Option Int→List Wn→Int
 | _,[]=>0
 | p,w :: l=>if keyB w.1=true then (if badW w.2.1 w.2.2=true then 1 else if (match p with|some q=>decide (w.2.1 < q)|none=>false)=true then 7 else brkL (some w.2.2) l) else 5
theorem brkL_cons (p:Option Int) (w:Wn) (l:List Wn):brkL p (w :: l)=if keyB w.1=true then (if badW w.2.1 w.2.2=true then 1 else if (match p with|some q=>decide (w.2.1 < q)|none=>false)=true then 7 else brkL (some w.2.2) l) else 5:=by cases p<;>rfl
theorem brkL_nil (p:Option Int):brkL p []=0:=by cases p<;>rfl
def brkE (ws:List Wn):Int:=if 500 < ws.length then 2 else brkL none ws
def prevB (ws:List Wn) (j:Nat):Option Int:=if j=0 then none else some (ws.getD (j - 1) default).2.2
theorem g_brkP (ws:List Wn) (h:Hp) (hs:∀ x∈ws,WOk x) (hl:ws.length≤1000):ACalls Tryz.prog 153 [.row 3 (ws.map encW) none] h (fun r h'=>r=.v (.int .i64 (brkE ws))∧h'=h):=by
 refine gE Tryz.func153 rfl (by kernel_rfl) 56 rfl fun c=>?_
 (repeat (first|refine gO rfl ?_|((refine gM zM32 fun K1 hK1=>?_;simp only [go_sem,↓reduceIte,reduceCtorEq,nA,nB,nC,nD,nE,nF,List.length_map]<;>and_intros<;>(apply hK1;clear hK1 K1)))))
 refine awp_cond (t:=_) rfl (fun h1=>?_) (fun h1=>?_)
 ·simp only [decide_eq_true_eq] at h1
  (repeat (first|refine gO rfl ?_|((refine gM zM32 fun K1 hK1=>?_;simp only [go_sem,↓reduceIte,reduceCtorEq,nA,nB,nC,nD,nE,nF]<;>and_intros<;>(apply hK1;clear hK1 K1)))))
  simp only [Tryz.results153,go_sem,↓reduceIte,reduceCtorEq,nA,nB,nC,nD,nE,nF]
  exact ⟨_,_,Weak.refl _,Hp.le.refl _,by rw [brkE,if_pos (by omega)],rfl⟩
 simp only [decide_eq_false_iff_not] at h1
 have hwe:brkE ws=brkL none ws:=by rw [brkE,if_neg (by omega)]
 rw [hwe]
 clear hwe
 (repeat (first|refine gO rfl ?_|((refine gM zM32 fun K1 hK1=>?_;simp only [go_sem,↓reduceIte,reduceCtorEq,nA,nB,nC,nD,nE,nF,List.length_map]<;>and_intros<;>(apply hK1;clear hK1 K1)))))
 refine awp_loopC (rl false [0,1,7,3,46]) 0 (fun g s=>∃ (j:Nat),g+j=ws.length∧Go.RowKit.Hid (brkL none ws=brkL (prevB ws j) (ws.drop j)) ∧
  s=⟨((.row 3 (ws.map encW) none) :: (jnk 7 ((.row 3 (ws.map encW) none) :: (.v (.int .i64 ws.length)) :: (.v (.int .i64 j)) :: (jnk 46 [])))),[],h⟩) ws.length ⟨0,by omega,Lib.hid rfl,rfl⟩ ?_
 rintro g _ ⟨j,hj,HW,rfl⟩
 (repeat (first|refine gO rfl ?_|((refine gM zM32 fun K1 hK1=>?_;simp only [go_sem,↓reduceIte,reduceCtorEq,nA,nB,nC,nD,nE,nF]<;>and_intros<;>(apply hK1;clear hK1 K1)))))
 refine awp_cond (t:=_) rfl (fun h2=>?_) (fun h2=>?_)
 ·simp only [decide_eq_true_eq] at h2
  have hjl:j < ws.length:=by omega
  have gx:(ws.map encW).getD j []=[.v (.string (ws.getD j default).1),.v (.int .i64 (ws.getD j default).2.1),.v (.int .i64 (ws.getD j default).2.2)]:=getD_enc encW ws j default hjl
  have hwo:=hs _ (show ws.getD j default∈ws by rw [List.getD_eq_getElem?_getD,List.getElem?_eq_getElem hjl];exact List.getElem_mem hjl)
  have hdc:=drop_at ws j default hjl
  have hpv:prevB ws (j+1)=some (ws.getD j default).2.2:=by rw [prevB,if_neg (by omega)];simp
  rw [hdc,brkL_cons] at HW
  clear hdc
  have hkx:=fun h=>a_isKey (ws.getD j default).1 (by have:=hwo.1;omega) h
  generalize ws.getD j default=x at gx hwo hpv HW hkx
  (repeat (first|refine gO rfl ?_|((refine gM zM32 fun K1 hK1=>?_;simp only [go_sem,↓reduceIte,reduceCtorEq,nA,nB,nC,nD,nE,nF,Int.toNat_natCast,gx]<;>and_intros<;>first|(apply hK1;clear hK1 K1)|(intros;(omega))|skip))))
  refine (hkx _).mono ?_;rintro _ hz ⟨rfl,hh⟩;apply hK1;clear hK1 K1;rw [hh];clear hh hz
  generalize hkb:keyB x.1=kb at HW
  clear hkx
  cases kb with
  | false =>
   (repeat (first|refine gO rfl ?_|((refine gM zM32 fun K1 hK1=>?_;simp only [go_sem,↓reduceIte,reduceCtorEq,nA,nB,nC,nD,nE,nF]<;>and_intros<;>(apply hK1;clear hK1 K1)))))
   refine awp_cond (t:=_) rfl (fun _=>?_) (fun h9=>by cases h9)
   (repeat (first|refine gO rfl ?_|((refine gM zM32 fun K1 hK1=>?_;simp only [go_sem,↓reduceIte,reduceCtorEq,nA,nB,nC,nD,nE,nF]<;>and_intros<;>(apply hK1;clear hK1 K1)))))
   simp only [Tryz.results153,go_sem,↓reduceIte,reduceCtorEq,nA,nB,nC,nD,nE,nF]
   exact ⟨_,_,Weak.refl _,Hp.le.refl _,by rw [HW.out];rfl,rfl⟩
  | true =>
   rw [if_pos rfl] at HW
   (repeat (first|refine gO rfl ?_|((refine gM zM32 fun K1 hK1=>?_;simp only [go_sem,↓reduceIte,reduceCtorEq,nA,nB,nC,nD,nE,nF]<;>and_intros<;>(apply hK1;clear hK1 K1)))))
   refine awp_cond (t:=_) rfl (fun h9=>by cases h9) (fun _=>?_)
   generalize hpb:(match prevB ws j with|some q=>decide (x.2.1 < q)|none=>false)=pb at HW
   generalize hbw:badW x.2.1 x.2.2=bw at HW
   unfold badW at hbw
   (repeat (first|refine gO rfl ?_|((refine gM zM32 fun K1 hK1=>?_;simp only [go_sem,↓reduceIte,reduceCtorEq,nA,nB,nC,nD,nE,nF,hbw]<;>and_intros<;>(apply hK1;clear hK1 K1)))))
   cases bw with
   | true =>
    refine awp_cond (t:=_) rfl (fun _=>?_) (fun h9=>by cases h9)
    (repeat (first|refine gO rfl ?_|((refine gM zM32 fun K1 hK1=>?_;simp only [go_sem,↓reduceIte,reduceCtorEq,nA,nB,nC,nD,nE,nF]<;>and_intros<;>(apply hK1;clear hK1 K1)))))
    simp only [Tryz.results153,go_sem,↓reduceIte,reduceCtorEq,nA,nB,nC,nD,nE,nF]
    exact ⟨_,_,Weak.refl _,Hp.le.refl _,by rw [HW.out];rfl,rfl⟩
   | false =>
    clear hbw
    rw [if_neg (by decide)] at HW
    refine awp_cond (t:=_) rfl (fun h9=>by cases h9) (fun _=>?_)
    by_cases hj0:j=0
    ·have hd0:decide ((0:Int) < (j:Int))=false:=by simp only [decide_eq_false_iff_not];omega
     rw [prevB,if_pos hj0] at hpb
     simp only at hpb
     subst hpb
     have ht1:((j:Int) - 1).toNat=0:=by omega
     have gp:(ws.map encW).getD 0 []=[.v (.string (ws.getD 0 default).1),.v (.int .i64 (ws.getD 0 default).2.1),.v (.int .i64 (ws.getD 0 default).2.2)]:=getD_enc encW ws 0 default (by omega)
     generalize ws.getD 0 default=y at gp
     (repeat (first|refine gO rfl ?_|((((with_reducible refine xS ?_);refine uD 10 zM32 zP1GE zP1GP 57 rfl (by kernel_rfl) ?_))<;>((try with_reducible intro K1 hK1);simp only [go_sem,↓reduceIte,reduceCtorEq,nA,nB,nC,nD,nE,nF,hd0,ht1,gp]<;>and_intros<;>(apply hK1;clear hK1 K1)))))
     refine awp_cond (t:=_) rfl (fun h9=>by cases h9) (fun _=>?_)
     (repeat (first|refine gO rfl ?_|((refine gM zM32 fun K1 hK1=>?_;simp only [go_sem,↓reduceIte,reduceCtorEq,nA,nB,nC,nD,nE,nF]<;>and_intros<;>first|(apply hK1;clear hK1 K1)|(intros;(omega))))))
     exact ⟨g - 1,by omega,j+1,by omega,Lib.hid (by rw [HW.out,hpv];rfl),rfl⟩
    ·have hd0:decide ((0:Int) < (j:Int))=true:=by simp only [decide_eq_true_eq];omega
     rw [prevB,if_neg hj0] at hpb
     simp only at hpb
     have ht1:((j:Int) - 1).toNat=j - 1:=by omega
     have gp:(ws.map encW).getD (j - 1) []=[.v (.string (ws.getD (j - 1) default).1),.v (.int .i64 (ws.getD (j - 1) default).2.1),.v (.int .i64 (ws.getD (j - 1) default).2.2)]:=getD_enc encW ws (j - 1) default (by omega)
     generalize ws.getD (j - 1) default=y at gp hpb
     (repeat (first|refine gO rfl ?_|((((with_reducible refine xS ?_);refine uD 10 zM32 zP1GE zP1GP 57 rfl (by kernel_rfl) ?_))<;>((try with_reducible intro K1 hK1);simp only [go_sem,↓reduceIte,reduceCtorEq,nA,nB,nC,nD,nE,nF,hd0,ht1,gp,hpb,List.length_map]<;>and_intros<;>first|(apply hK1;clear hK1 K1)|(intros;(omega))))))
     cases pb with
     | true =>
      refine awp_cond (t:=_) rfl (fun _=>?_) (fun h9=>by cases h9)
      (repeat (first|refine gO rfl ?_|((refine gM zM32 fun K1 hK1=>?_;simp only [go_sem,↓reduceIte,reduceCtorEq,nA,nB,nC,nD,nE,nF]<;>and_intros<;>(apply hK1;clear hK1 K1)))))
      simp only [Tryz.results153,go_sem,↓reduceIte,reduceCtorEq,nA,nB,nC,nD,nE,nF]
      exact ⟨_,_,Weak.refl _,Hp.le.refl _,by rw [HW.out,if_pos rfl],rfl⟩
     | false =>
      refine awp_cond (t:=_) rfl (fun h9=>by cases h9) (fun _=>?_)
      (repeat (first|refine gO rfl ?_|((refine gM zM32 fun K1 hK1=>?_;simp only [go_sem,↓reduceIte,reduceCtorEq,nA,nB,nC,nD,nE,nF]<;>and_intros<;>first|(apply hK1;clear hK1 K1)|(intros;(omega))))))
      exact ⟨g - 1,by omega,j+1,by omega,Lib.hid (by rw [HW.out,hpv];rfl),rfl⟩
 ·simp only [decide_eq_false_iff_not] at h2
  have hjl:j=ws.length:=by omega
  subst hjl
  rw [List.drop_length,brkL_nil] at HW
  (repeat (first|refine gO rfl ?_|((refine gM zM32 fun K1 hK1=>?_;simp only [go_sem,↓reduceIte,reduceCtorEq,nA,nB,nC,nD,nE,nF]<;>and_intros<;>(apply hK1;clear hK1 K1)))))
  simp only [Tryz.results153,go_sem,↓reduceIte,reduceCtorEq,nA,nB,nC,nD,nE,nF]
  exact ⟨_,_,Weak.refl _,Hp.le.refl _,by rw [HW.out],rfl⟩
theorem g_brkR (ws:List Wn) (h:Hp) (hs:∀ x∈ws,WOk x) (hl:ws.length≤1000):ACalls Tryz.prog 31 [.row 3 (ws.map encW) none] h (fun r h'=>r=.v (.int .i64 (brkE ws))∧h'=h):=by
 refine gE Tryz.func31 rfl (by kernel_rfl) 56 rfl fun c=>?_
 (repeat (first|refine gO rfl ?_|((refine gM zM32 fun K1 hK1=>?_;simp only [go_sem,↓reduceIte,reduceCtorEq,nA,nB,nC,nD,nE,nF,List.length_map]<;>and_intros<;>(apply hK1;clear hK1 K1)))))
 refine awp_cond (t:=_) rfl (fun h1=>?_) (fun h1=>?_)
 ·simp only [decide_eq_true_eq] at h1
  (repeat (first|refine gO rfl ?_|((refine gM zM32 fun K1 hK1=>?_;simp only [go_sem,↓reduceIte,reduceCtorEq,nA,nB,nC,nD,nE,nF]<;>and_intros<;>(apply hK1;clear hK1 K1)))))
  simp only [Tryz.results31,go_sem,↓reduceIte,reduceCtorEq,nA,nB,nC,nD,nE,nF]
  exact ⟨_,_,Weak.refl _,Hp.le.refl _,by rw [brkE,if_pos (by omega)],rfl⟩
 simp only [decide_eq_false_iff_not] at h1
 have hwe:brkE ws=brkL none ws:=by rw [brkE,if_neg (by omega)]
 rw [hwe]
 clear hwe
 (repeat (first|refine gO rfl ?_|((refine gM zM32 fun K1 hK1=>?_;simp only [go_sem,↓reduceIte,reduceCtorEq,nA,nB,nC,nD,nE,nF,List.length_map]<;>and_intros<;>(apply hK1;clear hK1 K1)))))
 refine awp_loopC (rl false [0,1,7,3,46]) 0 (fun g s=>∃ (j:Nat),g+j=ws.length∧Go.RowKit.Hid (brkL none ws=brkL (prevB ws j) (ws.drop j)) ∧
  s=⟨((.row 3 (ws.map encW) none) :: (jnk 7 ((.row 3 (ws.map encW) none) :: (.v (.int .i64 ws.length)) :: (.v (.int .i64 j)) :: (jnk 46 [])))),[],h⟩) ws.length ⟨0,by omega,Lib.hid rfl,rfl⟩ ?_
 rintro g _ ⟨j,hj,HW,rfl⟩
 (repeat (first|refine gO rfl ?_|((refine gM zM32 fun K1 hK1=>?_;simp only [go_sem,↓reduceIte,reduceCtorEq,nA,nB,nC,nD,nE,nF]<;>and_intros<;>(apply hK1;clear hK1 K1)))))
 refine awp_cond (t:=_) rfl (fun h2=>?_) (fun h2=>?_)
 ·simp only [decide_eq_true_eq] at h2
  have hjl:j < ws.length:=by omega
  have gx:(ws.map encW).getD j []=[.v (.string (ws.getD j default).1),.v (.int .i64 (ws.getD j default).2.1),.v (.int .i64 (ws.getD j default).2.2)]:=getD_enc encW ws j default hjl
  have hwo:=hs _ (show ws.getD j default∈ws by rw [List.getD_eq_getElem?_getD,List.getElem?_eq_getElem hjl];exact List.getElem_mem hjl)
  have hdc:=drop_at ws j default hjl
  have hpv:prevB ws (j+1)=some (ws.getD j default).2.2:=by rw [prevB,if_neg (by omega)];simp
  rw [hdc,brkL_cons] at HW
  clear hdc
  have hkx:=fun h=>a_key (ws.getD j default).1 (by have:=hwo.1;omega) h
  generalize ws.getD j default=x at gx hwo hpv HW hkx
  (repeat (first|refine gO rfl ?_|((refine gM zM32 fun K1 hK1=>?_;simp only [go_sem,↓reduceIte,reduceCtorEq,nA,nB,nC,nD,nE,nF,Int.toNat_natCast,gx]<;>and_intros<;>first|(apply hK1;clear hK1 K1)|(intros;(omega))|skip))))
  refine (hkx _).mono ?_;rintro _ hz ⟨rfl,hh⟩;apply hK1;clear hK1 K1;rw [hh];clear hh hz
  generalize hkb:keyB x.1=kb at HW
  clear hkx
  cases kb with
  | false =>
   (repeat (first|refine gO rfl ?_|((refine gM zM32 fun K1 hK1=>?_;simp only [go_sem,↓reduceIte,reduceCtorEq,nA,nB,nC,nD,nE,nF]<;>and_intros<;>(apply hK1;clear hK1 K1)))))
   refine awp_cond (t:=_) rfl (fun _=>?_) (fun h9=>by cases h9)
   (repeat (first|refine gO rfl ?_|((refine gM zM32 fun K1 hK1=>?_;simp only [go_sem,↓reduceIte,reduceCtorEq,nA,nB,nC,nD,nE,nF]<;>and_intros<;>(apply hK1;clear hK1 K1)))))
   simp only [Tryz.results31,go_sem,↓reduceIte,reduceCtorEq,nA,nB,nC,nD,nE,nF]
   exact ⟨_,_,Weak.refl _,Hp.le.refl _,by rw [HW.out];rfl,rfl⟩
  | true =>
   rw [if_pos rfl] at HW
   (repeat (first|refine gO rfl ?_|((refine gM zM32 fun K1 hK1=>?_;simp only [go_sem,↓reduceIte,reduceCtorEq,nA,nB,nC,nD,nE,nF]<;>and_intros<;>(apply hK1;clear hK1 K1)))))
   refine awp_cond (t:=_) rfl (fun h9=>by cases h9) (fun _=>?_)
   generalize hpb:(match prevB ws j with|some q=>decide (x.2.1 < q)|none=>false)=pb at HW
   generalize hbw:badW x.2.1 x.2.2=bw at HW
   unfold badW at hbw
   (repeat (first|refine gO rfl ?_|((refine gM zM32 fun K1 hK1=>?_;simp only [go_sem,↓reduceIte,reduceCtorEq,nA,nB,nC,nD,nE,nF,hbw]<;>and_intros<;>(apply hK1;clear hK1 K1)))))
   cases bw with
   | true =>
    refine awp_cond (t:=_) rfl (fun _=>?_) (fun h9=>by cases h9)
    (repeat (first|refine gO rfl ?_|((refine gM zM32 fun K1 hK1=>?_;simp only [go_sem,↓reduceIte,reduceCtorEq,nA,nB,nC,nD,nE,nF]<;>and_intros<;>(apply hK1;clear hK1 K1)))))
    simp only [Tryz.results31,go_sem,↓reduceIte,reduceCtorEq,nA,nB,nC,nD,nE,nF]
    exact ⟨_,_,Weak.refl _,Hp.le.refl _,by rw [HW.out];rfl,rfl⟩
   | false =>
    clear hbw
    rw [if_neg (by decide)] at HW
    refine awp_cond (t:=_) rfl (fun h9=>by cases h9) (fun _=>?_)
    by_cases hj0:j=0
    ·have hd0:decide ((0:Int) < (j:Int))=false:=by simp only [decide_eq_false_iff_not];omega
     rw [prevB,if_pos hj0] at hpb
     simp only at hpb
     subst hpb
     have ht1:((j:Int) - 1).toNat=0:=by omega
     have gp:(ws.map encW).getD 0 []=[.v (.string (ws.getD 0 default).1),.v (.int .i64 (ws.getD 0 default).2.1),.v (.int .i64 (ws.getD 0 default).2.2)]:=getD_enc encW ws 0 default (by omega)
     generalize ws.getD 0 default=y at gp
     (repeat (first|refine gO rfl ?_|((((with_reducible refine xS ?_);refine uD 10 zM32 zP1HE zP1HP 57 rfl (by kernel_rfl) ?_))<;>((try with_reducible intro K1 hK1);simp only [go_sem,↓reduceIte,reduceCtorEq,nA,nB,nC,nD,nE,nF,hd0,ht1,gp]<;>and_intros<;>(apply hK1;clear hK1 K1)))))
     refine awp_cond (t:=_) rfl (fun h9=>by cases h9) (fun _=>?_)
     (repeat (first|refine gO rfl ?_|((refine gM zM32 fun K1 hK1=>?_;simp only [go_sem,↓reduceIte,reduceCtorEq,nA,nB,nC,nD,nE,nF]<;>and_intros<;>first|(apply hK1;clear hK1 K1)|(intros;(omega))))))
     exact ⟨g - 1,by omega,j+1,by omega,Lib.hid (by rw [HW.out,hpv];rfl),rfl⟩
    ·have hd0:decide ((0:Int) < (j:Int))=true:=by simp only [decide_eq_true_eq];omega
     rw [prevB,if_neg hj0] at hpb
     simp only at hpb
     have ht1:((j:Int) - 1).toNat=j - 1:=by omega
     have gp:(ws.map encW).getD (j - 1) []=[.v (.string (ws.getD (j - 1) default).1),.v (.int .i64 (ws.getD (j - 1) default).2.1),.v (.int .i64 (ws.getD (j - 1) default).2.2)]:=getD_enc encW ws (j - 1) default (by omega)
     generalize ws.getD (j - 1) default=y at gp hpb
     (repeat (first|refine gO rfl ?_|((((with_reducible refine xS ?_);refine uD 10 zM32 zP1HE zP1HP 57 rfl (by kernel_rfl) ?_))<;>((try with_reducible intro K1 hK1);simp only [go_sem,↓reduceIte,reduceCtorEq,nA,nB,nC,nD,nE,nF,hd0,ht1,gp,hpb,List.length_map]<;>and_intros<;>first|(apply hK1;clear hK1 K1)|(intros;(omega))))))
     cases pb with
     | true =>
      refine awp_cond (t:=_) rfl (fun _=>?_) (fun h9=>by cases h9)
      (repeat (first|refine gO rfl ?_|((refine gM zM32 fun K1 hK1=>?_;simp only [go_sem,↓reduceIte,reduceCtorEq,nA,nB,nC,nD,nE,nF]<;>and_intros<;>(apply hK1;clear hK1 K1)))))
      simp only [Tryz.results31,go_sem,↓reduceIte,reduceCtorEq,nA,nB,nC,nD,nE,nF]
      exact ⟨_,_,Weak.refl _,Hp.le.refl _,by rw [HW.out,if_pos rfl],rfl⟩
     | false =>
      refine awp_cond (t:=_) rfl (fun h9=>by cases h9) (fun _=>?_)
      (repeat (first|refine gO rfl ?_|((refine gM zM32 fun K1 hK1=>?_;simp only [go_sem,↓reduceIte,reduceCtorEq,nA,nB,nC,nD,nE,nF]<;>and_intros<;>first|(apply hK1;clear hK1 K1)|(intros;(omega))))))
      exact ⟨g - 1,by omega,j+1,by omega,Lib.hid (by rw [HW.out,hpv];rfl),rfl⟩
 ·simp only [decide_eq_false_iff_not] at h2
  have hjl:j=ws.length:=by omega
  subst hjl
  rw [List.drop_length,brkL_nil] at HW
  (repeat (first|refine gO rfl ?_|((refine gM zM32 fun K1 hK1=>?_;simp only [go_sem,↓reduceIte,reduceCtorEq,nA,nB,nC,nD,nE,nF]<;>and_intros<;>(apply hK1;clear hK1 K1)))))
  simp only [Tryz.results31,go_sem,↓reduceIte,reduceCtorEq,nA,nB,nC,nD,nE,nF]
  exact ⟨_,_,Weak.refl _,Hp.le.refl _,by rw [HW.out],rfl⟩
def winE (a b:Int):Int:=if (!(decide (0≤a) && decide (a≤b)) || decide (345686400000 < b))=true then 1 else 0
theorem g_window (a b:Int) (h:Hp):ACalls Tryz.prog 32 [.agg [.v (.int .i64 a),.v (.int .i64 b)]] h (fun r h'=>r=.v (.int .i64 (winE a b))∧h'=h):=by
 have hin:=fun h=>a_in a 0 b h
 unfold winE
 generalize (decide ((0:Int)≤a) && decide (a≤b))=p at *
 refine gE Tryz.func32 rfl (by kernel_rfl) 13 rfl fun c=>?_
 (repeat (first|refine gO rfl ?_|(refine gR fun K1 hK1=>?_;simp only [go_sem,↓reduceIte,reduceCtorEq,nA,nB,nC,nD,nE,nF]<;>and_intros<;>first|(apply hK1;clear hK1 K1)|skip)))
 refine (hin _).mono ?_;rintro _ hz ⟨rfl,hh⟩;apply hK1;clear hK1 K1;rw [hh];clear hh hz
 cases p with
 | false =>
  (repeat (first|refine gO rfl ?_|(refine gR fun K1 hK1=>?_;simp only [go_sem,↓reduceIte,reduceCtorEq,nA,nB,nC,nD,nE,nF]<;>and_intros<;>(apply hK1;clear hK1 K1))))
  refine awp_cond (t:=_) rfl (fun _=>?_) (fun h9=>by cases h9)
  (repeat (first|refine gO rfl ?_|(refine gR fun K1 hK1=>?_;simp only [go_sem,↓reduceIte,reduceCtorEq,nA,nB,nC,nD,nE,nF]<;>and_intros<;>(apply hK1;clear hK1 K1))))
  simp only [Tryz.results32,go_sem,↓reduceIte,reduceCtorEq,nA,nB,nC,nD,nE,nF]
  exact ⟨_,_,Weak.refl _,Hp.le.refl _,rfl,rfl⟩
 | true =>
  (repeat (first|refine gO rfl ?_|(refine gR fun K1 hK1=>?_;simp only [go_sem,↓reduceIte,reduceCtorEq,nA,nB,nC,nD,nE,nF]<;>and_intros<;>(apply hK1;clear hK1 K1))))
  generalize decide (345686400000 < b)=q at *
  cases q with
  | true =>
   refine awp_cond (t:=_) rfl (fun _=>?_) (fun h9=>by cases h9)
   (repeat (first|refine gO rfl ?_|(refine gR fun K1 hK1=>?_;simp only [go_sem,↓reduceIte,reduceCtorEq,nA,nB,nC,nD,nE,nF]<;>and_intros<;>(apply hK1;clear hK1 K1))))
   simp only [Tryz.results32,go_sem,↓reduceIte,reduceCtorEq,nA,nB,nC,nD,nE,nF]
   exact ⟨_,_,Weak.refl _,Hp.le.refl _,rfl,rfl⟩
  | false =>
   refine awp_cond (t:=_) rfl (fun h9=>by cases h9) (fun _=>?_)
   (repeat (first|refine gO rfl ?_|(refine gR fun K1 hK1=>?_;simp only [go_sem,↓reduceIte,reduceCtorEq,nA,nB,nC,nD,nE,nF]<;>and_intros<;>(apply hK1;clear hK1 K1))))
   simp only [Tryz.results32,go_sem,↓reduceIte,reduceCtorEq,nA,nB,nC,nD,nE,nF]
   exact ⟨_,_,Weak.refl _,Hp.le.refl _,rfl,rfl⟩
theorem brkL_ok:∀ {ws:List Wn} {p:Int},brkL (some p) ws=0→Brk ws p
 | [],_,_=>trivial
 | w :: ws,p,h=>by
  rw [brkL_cons] at h
  split at h
  ·split at h
   ·cases h
   ·rename_i h1
    have h:=h
    simp only at h
    split at h
    ·cases h
    ·rename_i h2
     simp only [badW,Bool.or_eq_true,decide_eq_true_eq,not_or] at h1
     simp only [decide_eq_true_eq] at h2
     exact ⟨by omega,by omega,by omega,brkL_ok h⟩
  ·cases h
theorem brkE_ok {ws:List Wn} (h:brkE ws=0):Brk ws 0∧ws.length≤500:=by
 unfold brkE at h
 split at h
 ·cases h
 ·rename_i hl
  refine ⟨?_,by omega⟩
  cases ws with
  | nil=>trivial
  | cons w ws =>
   rw [brkL_cons] at h
   split at h
   ·split at h
    ·cases h
    ·rename_i h1
     simp only [Bool.false_eq_true,if_false] at h
     simp only [badW,Bool.or_eq_true,decide_eq_true_eq,not_or] at h1
     exact ⟨by omega,by omega,by omega,brkL_ok h⟩
   ·cases h
section
variable {P:Program} {c:Cx} {Q:Exit→St→Prop} {s:St}
theorem awp_ownRow (i j z:Nat) {x:Code} {cs:List AV} (hi:s.h.H i=some (.cells cs)) (hj:cs[j]?=some (.v (.slice none 0 0)))
  (h:∀ k,s.h.T k=none→Awp P c x Q { s with h:=⟨upd s.h.H i (some (.cells (cs.set j (.row z [] (some k))))),upd s.h.T k (some (.tail 0))⟩ }):Awp P c x Q s:=by
 rintro a w ⟨G,L,sm,hg,hf,hL⟩
 obtain ⟨hT,s1,g1,f1⟩:=sm.newTok (o:=.tail 0) (.inl rfl)
 have hjl:j < cs.length:=(List.getElem?_eq_some_iff.1 hj).1
 obtain ⟨b,o,e1,e3,⟨vs,E,e4,e5⟩,e6⟩:=s1.hs.obj i _ hi
 have hnk:G.newTk.tl G.nx=some none:=upd_same _ _ _
 have hw:=h G.nx hT
 refine hw a w ?_
 have hre:∀ (ws:List Value),RepL G.newTk cs ws→RepL G.newTk (cs.set j (.row z [] (some G.nx))) ws:=fun ws hr=>by
  refine ⟨by rw [List.length_set];exact hr.1,fun q hq hq'=>?_⟩
  have hq2:q < cs.length:=by simpa using hq
  have h3:=hr.2 q hq2 hq'
  refine ⟨?_,h3.2⟩
  simp only [List.getElem_set]
  split
  ·rename_i ejq
   subst ejq
   have h4:=h3.1
   rw [show cs[j]=AV.v (.slice none 0 0) by rw [List.getElem?_eq_getElem hq2] at hj;simpa using hj] at h4
   have hv:=(RepT.of (L:=[]) h4).v_inv
   rw [hv]
   refine .nil z _ ⟨by simp [Gh.newTk],?_⟩
   rw [hnk]
   exact ⟨rfl,none,rfl⟩
  ·exact h3.1
 have hne:∀ q,upd s.h.H i (some (AO.cells (cs.set j (.row z [] (some G.nx))))) q≠none→s.h.H q≠none:=fun q hq=>by
  by_cases e:q=i
  ·rw [e,hi];simp
  ·rwa [upd_other _ _ e] at hq
 have hown:∀ {G' b},Own G' ⟨upd s.h.H i (some (.cells (cs.set j (.row z [] (some G.nx))))),upd s.h.T G.nx (some (.tail 0))⟩ b→Own G' { s.h with T:=upd s.h.T G.nx (some (.tail 0)) } b:=fun o=>own_same (h:={ s.h with T:=upd s.h.T G.nx (some (.tail 0)) }) (h':=⟨upd s.h.H i (some (.cells (cs.set j (.row z [] (some G.nx))))),upd s.h.T G.nx (some (.tail 0))⟩) hne rfl o
 have f2:=hf.trans f1
 refine ⟨G.newTk,L,⟨⟨s1.hs.val,fun q ob e=>?_,fun q k b h1 h2=>s1.hs.inj q k b (hne q h1) (hne k h2),s1.hs.tok,s1.hs.tinj,fun k q t h1 h2=>s1.hs.tobj k q t h1 (hne q h2),s1.hs.fat,s1.hs.ftl⟩,s1.sz,s1.sl,s1.df,⟨s1.ls.len,s1.ls.lo,fun b hb=>⟨fun o=>(s1.ls.free b hb).1 (hown o),(s1.ls.free b hb).2⟩,s1.ls.nd⟩⟩,hg.trans g1,⟨f2.os,f2.tape,f2.output,f2.size,fun b hb hn=>let ⟨x,y,z⟩:=f2.keep b hb hn;⟨x,fun o=>y (hown o),z⟩⟩,hL⟩
 by_cases e2:q=i
 ·subst e2
  replace e:upd s.h.H q (some (AO.cells (cs.set j (.row z [] (some G.nx))))) q=some ob:=e
  rw [upd_same] at e
  cases e
  exact ⟨b,o,e1,e3,⟨vs,E,e4,by rw [List.length_set];exact hre _ e5⟩,e6⟩
 ·replace e:upd s.h.H i (some (AO.cells (cs.set j (.row z [] (some G.nx))))) q=some ob:=e
  rw [upd_other _ _ e2] at e
  exact s1.hs.obj q ob e
end
open Go
set_option linter.unusedVariables false
set_option linter.unusedSimpArgs false
open Nat renaming reduceAdd→nA,reduceSub→nB,reduceMul→nC,reduceLT→nD,reduceLeDiff→nE,reduceEqDiff→nF,reduceMod→nG,reduceDiv→nH,reducePow→nI
abbrev zP1IE:List Nat:=[0,1,2,3]
abbrev zP1IP:List (Nat × List Nat × List Nat):=[(4,[],[]),(5,[],[])]
attribute [go_sem] zP1IE zP1IP
set_option maxRecDepth 100000
theorem g_gcdP (a b:Nat) (h:Hp) (ha:a≤1000000000000) (hb:b≤1000000000000):ACalls Tryz.prog 146 [.v (.int .i64 a),.v (.int .i64 b)] h (fun r h'=>r=.v (.int .i64 (Nat.gcd a b:Nat))∧h'=h):=by
 refine gE Tryz.func146 rfl (by kernel_rfl) 13 rfl fun c=>?_
 (repeat (first|refine gO rfl ?_|((refine gR fun K1 hK1=>?_;simp only [go_sem,↓reduceIte,reduceCtorEq,nA,nB,nC,nD,nE,nF]<;>and_intros<;>(apply hK1;clear hK1 K1)))))
 refine awp_loopC (rl false [0,2,13]) 0 (fun g s=>∃ x:Nat,Nat.gcd x g=Nat.gcd a b∧x≤1000000000000∧g≤1000000000000∧s=⟨((.v (.int .i64 x)) :: (.v (.int .i64 g)) :: (jnk 13 [])),[],h⟩) b ⟨a,rfl,ha,hb,rfl⟩ ?_
 rintro g _ ⟨x,hx,hx1,hg1,rfl⟩
 (repeat (first|refine gO rfl ?_|((refine gR fun K1 hK1=>?_;simp only [go_sem,↓reduceIte,reduceCtorEq,nA,nB,nC,nD,nE,nF]<;>and_intros<;>(apply hK1;clear hK1 K1)))))
 refine awp_cond (t:=_) rfl (fun h1=>?_) (fun h1=>?_)
 ·have hg:g≠0:=by simpa using h1
  have hm:(x:Int).tmod (g:Int)=((x % g:Nat):Int):=rfl
  have hlt:=Nat.mod_lt x (show 0 < g by omega)
  (repeat (first|refine gO rfl ?_|((first|refine gR ?_|(with_reducible refine wM ?_ ?_)|((with_reducible refine xR ?_);refine uE 2 zM33 zP1IE zP1IP 15 rfl (by kernel_rfl) ?_))<;>((try with_reducible intro K1 hK1);simp only [go_sem,↓reduceIte,reduceCtorEq,nA,nB,nC,nD,nE,nF,hm]<;>and_intros<;>first|(apply hK1;clear hK1 K1)|(intros;(omega))))))
  exact ⟨x % g,hlt,g,by rw [← hx,Nat.gcd_comm x g,Nat.gcd_rec g x,Nat.gcd_comm],hg1,by omega,rfl⟩
 ·have hg:g=0:=by simpa using h1
  subst hg
  rw [Nat.gcd_zero_right] at hx
  have hmx:max (x:Int) (-(x:Int))=x:=by omega
  (repeat (first|refine gO rfl ?_|((refine gR fun K1 hK1=>?_;simp only [go_sem,↓reduceIte,reduceCtorEq,nA,nB,nC,nD,nE,nF,hmx]<;>and_intros<;>first|(apply hK1;clear hK1 K1)|(intros;(omega))))))
  simp only [Tryz.results146,go_sem,↓reduceIte,reduceCtorEq,nA,nB,nC,nD,nE,nF]
  exact ⟨_,_,Weak.refl _,Hp.le.refl _,by rw [← hx],rfl⟩
def gcdTo (l:List Int) (j:Nat):Nat:=((l.take j).map Int.toNat).foldl Nat.gcd 0
theorem gcdTo_succ (l:List Int) (j:Nat) (h:j < l.length):gcdTo l (j+1)=Nat.gcd (gcdTo l j) (l.getD j 0).toNat:=by
 rw [gcdTo,List.take_add_one,List.getElem?_eq_getElem h,List.map_append,List.foldl_append,List.getD_eq_getElem?_getD,List.getElem?_eq_getElem h];rfl
theorem gcdTo_all (l:List Int):gcdTo l l.length=gcdI l:=by
 rw [gcdTo,List.take_length,foldl_gcd,Nat.gcd_zero_left];rfl
theorem gcdTo_le (l:List Int) (h:∀ x∈l,1≤x∧x≤1000):∀ j,j≤l.length→gcdTo l j≤1000
 | 0,_=>by simp [gcdTo]
 | j+1,hj=>by
  have hm:l.getD j 0∈l:=by rw [List.getD_eq_getElem?_getD,List.getElem?_eq_getElem (by omega)];exact List.getElem_mem _
  have:=h _ hm
  rw [gcdTo_succ l j (by omega)]
  exact Nat.le_trans (Nat.gcd_le_right _ (by omega)) (by omega)
theorem g_divisorP (l:List Int) (h:Hp) (hl:l.length≤1000) (hs:∀ x∈l,1≤x∧x≤1000):ACalls Tryz.prog 200 [.row 1 (l.map encI) none] h (fun r h'=>r=.v (.int .i64 (gcdI l:Nat))∧h'=h):=by
 refine gE Tryz.func200 rfl (by kernel_rfl) 16 rfl fun c=>?_
 (repeat (first|refine gO rfl ?_|(refine gR fun K1 hK1=>?_;simp only [go_sem,↓reduceIte,reduceCtorEq,nA,nB,nC,nD,nE,nF]<;>and_intros<;>(apply hK1;clear hK1 K1))))
 refine awp_loopC (rl false [3,1,2,3,8]) 0 (fun g s=>∃ j:Nat,g+j=l.length∧s=⟨((jnk 3 ((.v (.int .i64 (gcdTo l j:Nat))) :: AV.junk :: AV.junk :: ((.row 1 (l.map encI) none) :: (.v (.int .i64 l.length)) :: (.v (.int .i64 j)) :: (jnk 8 []))))),[],h⟩) l.length ⟨0,by omega,rfl⟩ ?_
 rintro g _ ⟨j,hj,rfl⟩
 (repeat (first|refine gO rfl ?_|(refine gR fun K1 hK1=>?_;simp only [go_sem,↓reduceIte,reduceCtorEq,nA,nB,nC,nD,nE,nF]<;>and_intros<;>(apply hK1;clear hK1 K1))))
 refine awp_cond (t:=_) rfl (fun h1=>?_) (fun h1=>?_)
 ·simp only [decide_eq_true_eq] at h1
  have hjl:j < l.length:=by omega
  have gx:(l.map encI).getD j []=encI (l.getD j 0):=getD_enc encI l j 0 hjl
  have hb:=hs _ (getD_mem' l j 0 hjl)
  have e1:=gcdTo_succ l j hjl
  have hl1:=gcdTo_le l hs j (by omega)
  generalize l.getD j 0=x at gx hb e1
  obtain ⟨y,rfl⟩:∃ y:Nat,x=y:=⟨x.toNat,by omega⟩
  rw [Int.toNat_natCast] at e1
  (repeat (first|refine gO rfl ?_|(refine gR fun K1 hK1=>?_;simp only [go_sem,↓reduceIte,reduceCtorEq,nA,nB,nC,nD,nE,nF,Int.toNat_natCast,gx,encI]<;>and_intros<;>first|(apply hK1;clear hK1 K1)|(intros;(omega))|skip)))
  refine (g_gcdP (gcdTo l j) y h (by omega) (by omega)).mono ?_;rintro _ hz ⟨rfl,hh⟩;apply hK1;clear hK1 K1;rw [hh];clear hh hz
  (repeat (first|refine gO rfl ?_|(refine gR fun K1 hK1=>?_;simp only [go_sem,↓reduceIte,reduceCtorEq,nA,nB,nC,nD,nE,nF]<;>and_intros<;>first|(apply hK1;clear hK1 K1)|(intros;(omega)))))
  exact ⟨g - 1,by omega,j+1,by omega,by rw [e1];rfl⟩
 ·simp only [decide_eq_false_iff_not] at h1
  have hjl:j=l.length:=by omega
  subst hjl
  rw [gcdTo_all]
  (repeat (first|refine gO rfl ?_|(refine gR fun K1 hK1=>?_;simp only [go_sem,↓reduceIte,reduceCtorEq,nA,nB,nC,nD,nE,nF]<;>and_intros<;>(apply hK1;clear hK1 K1))))
  simp only [Tryz.results200,go_sem,↓reduceIte,reduceCtorEq,nA,nB,nC,nD,nE,nF]
  exact ⟨_,_,Weak.refl _,Hp.le.refl _,rfl,rfl⟩
open Go.RowKit Go.Lib Go.Sort
theorem onceS_cells (hv:List ByteArray):(onceL (hv.map (·.data.toList))).map encStr=(onceS hv).map Value.string:=by
  rw [onceS,List.map_map]
  rfl
abbrev zP1JE:List Nat:=[0,1,2,3,4,5,6]
abbrev zP1JP:List (Nat × List Nat × List Nat):=[(7,[],[])]
attribute [go_sem] zP1JE zP1JP
set_option maxHeartbeats 8000000
theorem flat_encS (l:List ByteArray):(l.map encS).flatten=l.map fun x=>AV.v (.string x):=by
 induction l with
 | nil=>rfl
 | cons x q ih=>simp [encS,ih]
theorem repL_strs (G:Gh) (l:List ByteArray):RepL G (l.map fun x=>AV.v (.string x)) (l.map Value.string):=by
 refine ⟨by simp,fun j a b=>?_⟩
 simp only [List.getElem_map]
 exact ⟨.v _ rfl,rfl⟩
end Go.Proofs.YtidkkmoiolffnaaGreatDoor
namespace Go.Proofs
open Go.Shelf
set_option linter.unusedVariables false
set_option linter.unusedSimpArgs false
def Tryz.sorted82_ren:Go.Shelf.Ren:=⟨fun|6=>82|8=>143|9=>144|11=>203|13=>158|12=>204|23=>227|24=>228|14=>257|15=>258|16=>259|17=>260|18=>261|19=>262|20=>263|21=>264|22=>265|25=>329|26=>278|27=>279|28=>330|29=>331|30=>332|31=>364|n=>n,fun|26=>9|28=>170|24=>44|0=>0|3=>3|37=>279|48=>211|50=>354|4=>4|40=>347|39=>346|45=>200|5=>5|9=>9|51=>395|55=>399|57=>440|58=>164|33=>181|n=>n,fun|n=>n⟩
theorem Tryz.sorted82:Go.Proofs.SlLaysZ.n6 Tryz.prog Tryz.sorted82_ren:={
  mixed:=by kernel_rfl
  f6:=⟨Tryz.f82.name,by decide,Tryz.func82.trans (congrArg some (by kernel_rfl))⟩
  f8:=⟨Tryz.f143.name,by decide,Tryz.func143.trans (congrArg some (by kernel_rfl))⟩
  f11:=⟨Tryz.f203.name,by decide,Tryz.func203.trans (congrArg some (by kernel_rfl))⟩
  t0:=Tryz.underlying0
  a0:=Tryz.isAgg0
  z0:=Tryz.sizeOf0
  v0:=Tryz.zeroValue0
  t24:=Tryz.underlying44
  a24:=Tryz.isAgg44
  z24:=Tryz.sizeOf44
  v24:=Tryz.zeroValue44
  t26:=Tryz.underlying9
  a26:=Tryz.isAgg9
  z26:=Tryz.sizeOf9
  v26:=Tryz.zeroValue9
  t28:=Tryz.underlying170
  a28:=Tryz.isAgg170
  z28:=Tryz.sizeOf170
  v28:=Tryz.zeroValue170
  i26:=by kernel_rfl }
def Tryz.sort144_ren:Go.Shelf.Ren:=⟨fun|6=>144|8=>158|9=>204|19=>227|20=>228|21=>257|22=>258|23=>259|24=>260|25=>261|26=>262|27=>263|28=>264|29=>265|36=>329|31=>278|32=>279|37=>330|38=>331|39=>332|41=>364|n=>n,fun|27=>44|29=>9|3=>3|32=>279|26=>44|0=>0|44=>211|46=>354|4=>4|36=>347|35=>346|41=>200|5=>5|9=>9|53=>395|57=>399|63=>440|64=>164|n=>n,fun|n=>n⟩
theorem Tryz.sort144:Go.Proofs.SlLaysM.n6 Tryz.prog Tryz.sort144_ren:={
  mixed:=by kernel_rfl
  f6:=⟨Tryz.f144.name,by decide,Tryz.func144.trans (congrArg some (by kernel_rfl))⟩
  f8:=Tryz.func158.trans (congrArg some (by kernel_rfl))
  f9:=⟨Tryz.f204.name,by decide,Tryz.func204.trans (congrArg some (by kernel_rfl))⟩
  f19:=Tryz.func227.trans (congrArg some (by kernel_rfl))
  f20:=Tryz.func228.trans (congrArg some (by kernel_rfl))
  f21:=⟨Tryz.f257.name,by decide,Tryz.func257.trans (congrArg some (by kernel_rfl))⟩
  f22:=⟨Tryz.f258.name,by decide,Tryz.func258.trans (congrArg some (by kernel_rfl))⟩
  f23:=⟨Tryz.f259.name,by decide,Tryz.func259.trans (congrArg some (by kernel_rfl))⟩
  f24:=⟨Tryz.f260.name,by decide,Tryz.func260.trans (congrArg some (by kernel_rfl))⟩
  f25:=⟨Tryz.f261.name,by decide,Tryz.func261.trans (congrArg some (by kernel_rfl))⟩
  f26:=⟨Tryz.f262.name,by decide,Tryz.func262.trans (congrArg some (by kernel_rfl))⟩
  f27:=⟨Tryz.f263.name,by decide,Tryz.func263.trans (congrArg some (by kernel_rfl))⟩
  f28:=⟨Tryz.f264.name,by decide,Tryz.func264.trans (congrArg some (by kernel_rfl))⟩
  f29:=⟨Tryz.f265.name,by decide,Tryz.func265.trans (congrArg some (by kernel_rfl))⟩
  f31:=Tryz.func278.trans (congrArg some (by kernel_rfl))
  f32:=Tryz.func279.trans (congrArg some (by kernel_rfl))
  f36:=⟨Tryz.f329.name,by decide,Tryz.func329.trans (congrArg some (by kernel_rfl))⟩
  f37:=⟨Tryz.f330.name,by decide,Tryz.func330.trans (congrArg some (by kernel_rfl))⟩
  f38:=⟨Tryz.f331.name,by decide,Tryz.func331.trans (congrArg some (by kernel_rfl))⟩
  f39:=⟨Tryz.f332.name,by decide,Tryz.func332.trans (congrArg some (by kernel_rfl))⟩
  f41:=⟨Tryz.f364.name,by decide,Tryz.func364.trans (congrArg some (by kernel_rfl))⟩
  t0:=Tryz.underlying0
  a0:=Tryz.isAgg0
  z0:=Tryz.sizeOf0
  v0:=Tryz.zeroValue0
  t3:=Tryz.underlying3
  a3:=Tryz.isAgg3
  z3:=Tryz.sizeOf3
  v3:=Tryz.zeroValue3
  t4:=Tryz.underlying4
  a4:=Tryz.isAgg4
  z4:=Tryz.sizeOf4
  v4:=Tryz.zeroValue4
  t5:=Tryz.underlying5
  a5:=Tryz.isAgg5
  z5:=Tryz.sizeOf5
  v5:=Tryz.zeroValue5
  t9:=Tryz.underlying9
  a9:=Tryz.isAgg9
  z9:=Tryz.sizeOf9
  v9:=Tryz.zeroValue9
  t26:=Tryz.underlying44
  a26:=Tryz.isAgg44
  z26:=Tryz.sizeOf44
  v26:=Tryz.zeroValue44
  t27:=Tryz.underlying44
  a27:=Tryz.isAgg44
  z27:=Tryz.sizeOf44
  v27:=Tryz.zeroValue44
  t29:=Tryz.underlying9
  a29:=Tryz.isAgg9
  z29:=Tryz.sizeOf9
  v29:=Tryz.zeroValue9
  t32:=Tryz.underlying279
  a32:=Tryz.isAgg279
  z32:=Tryz.sizeOf279
  v32:=Tryz.zeroValue279
  t35:=Tryz.underlying346
  a35:=Tryz.isAgg346
  z35:=Tryz.sizeOf346
  v35:=Tryz.zeroValue346
  t36:=Tryz.underlying347
  a36:=Tryz.isAgg347
  z36:=Tryz.sizeOf347
  v36:=Tryz.zeroValue347
  t41:=Tryz.underlying200
  a41:=Tryz.isAgg200
  z41:=Tryz.sizeOf200
  v41:=Tryz.zeroValue200
  t44:=Tryz.underlying211
  a44:=Tryz.isAgg211
  z44:=Tryz.sizeOf211
  v44:=Tryz.zeroValue211
  t46:=Tryz.underlying354
  a46:=Tryz.isAgg354
  z46:=Tryz.sizeOf354
  v46:=Tryz.zeroValue354
  t53:=Tryz.underlying395
  a53:=Tryz.isAgg395
  z53:=Tryz.sizeOf395
  v53:=Tryz.zeroValue395
  t57:=Tryz.underlying399
  a57:=Tryz.isAgg399
  z57:=Tryz.sizeOf399
  v57:=Tryz.zeroValue399
  t63:=Tryz.underlying440
  a63:=Tryz.isAgg440
  z63:=Tryz.sizeOf440
  v63:=Tryz.zeroValue440
  t64:=Tryz.underlying164
  a64:=Tryz.isAgg164
  z64:=Tryz.sizeOf164
  v64:=Tryz.zeroValue164 }
open Go.RowKit Go.Maps Go.Sort in
theorem Tryz.sorts82 (m:Nat):AnyZ.SortsIn Tryz.prog Tryz.sorted82_ren Fence.wide m :=
  ⟨fun blk off cap ss W hH hblk hsz=>callsIn_wide.2 (AnyM.slices_Sort_string Tryz.sort144 blk off cap ss W hH hblk hsz),
   fun p cap W=>callsIn_wide.2 (AnyM.slices_Sort_string_none Tryz.sort144 p cap W)⟩
def Tryz.keys99_ren:Go.Shelf.Ren:=⟨fun|7=>99|10=>159|n=>n,fun|23=>183|26=>9|3=>4|28=>170|0=>0|27=>169|33=>181|4=>4|n=>n,fun|n=>n⟩
theorem Tryz.keys99:Go.Proofs.SlLaysZ.n7 Tryz.prog Tryz.keys99_ren:={
  mixed:=by kernel_rfl
  f7:=⟨Tryz.f99.name,by decide,Tryz.func99.trans (congrArg some (by kernel_rfl))⟩
  f10:=⟨Tryz.f159.name,by decide,Tryz.func159.trans (congrArg some (by kernel_rfl))⟩
  t0:=Tryz.underlying0
  a0:=Tryz.isAgg0
  z0:=Tryz.sizeOf0
  v0:=Tryz.zeroValue0
  t4:=Tryz.underlying4
  a4:=Tryz.isAgg4
  z4:=Tryz.sizeOf4
  v4:=Tryz.zeroValue4
  t23:=Tryz.underlying183
  a23:=Tryz.isAgg183
  z23:=Tryz.sizeOf183
  v23:=Tryz.zeroValue183
  t26:=Tryz.underlying9
  a26:=Tryz.isAgg9
  z26:=Tryz.sizeOf9
  v26:=Tryz.zeroValue9
  t27:=Tryz.underlying169
  a27:=Tryz.isAgg169
  z27:=Tryz.sizeOf169
  v27:=Tryz.zeroValue169
  t28:=Tryz.underlying170
  a28:=Tryz.isAgg170
  z28:=Tryz.sizeOf170
  v28:=Tryz.zeroValue170
  t33:=Tryz.underlying181
  a33:=Tryz.isAgg181
  z33:=Tryz.sizeOf181
  v33:=Tryz.zeroValue181 }
end Go.Proofs
namespace Go.Proofs.YtidkkmoiolffnaaGreatDoor
open Go.RowKit Go.Maps Go.Sort Go.Shelf Go.WideElems Go.MapKept
set_option linter.unusedVariables false
set_option linter.unusedSimpArgs false
def keyL (x:MapEntry):List UInt8:=match x.key with
  | .string s=>s.data.toList
  | _=>[]
def okR {H:Type}:Value→Option (DataW H × List MemPlace):=fun _=>some (.lit (.bool true),[])
theorem ents_fit {H:Type} {P:Program} {k:TypeId} (hk:P.underlying k=some .string) {ents:Array MapEntry} {clock:Nat} (hst:Stamped ents clock) (hs:∀ x∈ents.toList,∃ s:ByteArray,x.key=.string s∧s.size≤maxLen) (hl:ents.size≤maxLen):Fit (H:=H) P k okR ents clock:=by
  refine ⟨hl,hst,fun x hx=>?_⟩
  obtain ⟨s,e,hsz⟩:=hs x hx
  exact ⟨(.string s.data.toList,.lit (.bool true)),by simp [Go.WideElems.rd,keyOf,hk,e,mapKey,hsz,okR]⟩
theorem ents_keys {H:Type} {P:Program} {k:TypeId} (hk:P.underlying k=some .string) {l:List MapEntry} (hs:∀ x∈l,∃ s:ByteArray,x.key=.string s∧s.size≤maxLen):(l.map (Go.WideElems.rg (H:=H) P k okR)).map (fun p=>strOf p.1)=l.map keyL:=by
  rw [List.map_map]
  refine List.map_congr_left fun x hx=>?_
  obtain ⟨s,e,hsz⟩:=hs x hx
  have:Go.WideElems.rd (H:=H) P k okR x=some (.string s.data.toList,.lit (.bool true)):=by simp [Go.WideElems.rd,keyOf,hk,e,mapKey,hsz,okR]
  simp [Go.WideElems.rg,this,strOf,keyL,e]
set_option maxRecDepth 100000 in
set_option maxHeartbeats 1000000 in
theorem sorted_walkB (p b:Nat) (ents:Array MapEntry) (clock:Nat) (W:World) (hp:W.cell? ⟨p,0,none⟩=some (.map (some b))) (hb:W.heap[b]?=some (.map ents clock)) (hst:Stamped ents clock)
    (hs:∀ x∈ents.toList,∃ s:ByteArray,x.key=.string s∧s.size≤maxLen) (hl:ents.size≤100000) :
    Calls Tryz.prog 82 #[.func (.func 159) #[] #[.pointer (some ⟨p,0,none⟩)]] W fun e w'=>∃ (v:Value) (ss:List (List UInt8)),e=.returned v∧ss.Perm (ents.toList.map keyL) ∧
      w'.ownsRow W.heap.size 9 1 v ss.length ((ss.mergeSort (fun x y=>decide (x≤y))).map encStr)∧Below W.heap.size W w':=by
  have hk:Tryz.prog.underlying 9=some .string:=Tryz.underlying9
  have hmx:(100000:Nat)≤maxLen:=by decide
  have F:=ents_fit (H:=Unit) hk hst hs (by omega)
  have hpb:p < W.heap.size:=World.block_lt_of_cell? W _ hp
  have hperm:((ents.toList.map (Go.WideElems.rg (H:=Unit) Tryz.prog 9 okR)).foldr DataW.insert []).Perm (ents.toList.map (Go.WideElems.rg Tryz.prog 9 okR)):=Go.WideShapes.sorted_perm _
  have hlen:Maps.size (.map ((ents.toList.map (Go.WideElems.rg (H:=Unit) Tryz.prog 9 okR)).foldr DataW.insert []))=ents.size:=by
    rw [Maps.size_eq,hperm.length_eq];simp
  have hown:W.ownsMap Tryz.prog 9 (okR (H:=Unit)) b ents.size (.map ((ents.toList.map (Go.WideElems.rg Tryz.prog 9 okR)).foldr DataW.insert [])):=⟨ents,clock,hb,F,Nat.le_refl _,rfl⟩
  have hseq:=AnyZ.keys_gives (ρ:=Tryz.keys99_ren) { Tryz.keys99 with } Fence.wide 2 trivial rfl (by omega) p b ents.size _ W hpb hp hown
  have hc:=AnyZ.sorted_in Tryz.sorted82 Fence.wide 5 trivial trivial trivial trivial rfl (by omega) (Tryz.sorts82 _) (enters_of Tryz.func144 (by kernel_rfl) rfl) 159 #[.pointer (some ⟨p,0,none⟩)] trivial
    (enters_of Tryz.func159 (by kernel_rfl) rfl) _ _ (by rw [hlen];omega) (by rw [hlen];omega) W hseq
  refine (callsIn_wide.1 hc).mono ?_
  rintro e w' ⟨v,ss,rfl,hS,hrow,_,hbel⟩
  refine ⟨v,ss,rfl,hS.trans ?_,hrow,hbel⟩
  rw [← ents_keys (H:=Unit) hk hs]
  exact hperm.map _
open Go
open Nat renaming reduceAdd→nA,reduceSub→nB,reduceMul→nC,reduceLT→nD,reduceLeDiff→nE,reduceEqDiff→nF,reduceMod→nG,reduceDiv→nH,reducePow→nI
set_option maxRecDepth 100000
set_option maxHeartbeats 8000000
theorem g_keysB (m:Nat) (h:Hp):ACalls Tryz.prog 99 [.map m] h (fun r h'=>∃ i,h.H i=none∧r=.fn 159 [.ptr i 0]∧h'={ h with H:=upd h.H i (some (.cells [.map m])) }):=by
 refine gE Tryz.func99 rfl (by kernel_rfl) 3 rfl fun c=>?_
 (repeat ((refine gM zM34 fun K1 hK1=>?_;simp only [go_sem,↓reduceIte,reduceCtorEq,nA,nB,nC,nD,nE,nF]<;>and_intros)))
 intro i hi
 refine hK1 _ ?_;clear hK1 K1
 (repeat (first|refine gO rfl ?_|(refine gM zM34 fun K1 hK1=>?_;simp only [go_sem,↓reduceIte,reduceCtorEq,nA,nB,nC,nD,nE,nF]<;>and_intros<;>first|(apply hK1;clear hK1 K1)|(intros;(decide)))))
 simp only [Tryz.results99,go_sem,↓reduceIte,reduceCtorEq,nA,nB,nC,nD,nE,nF]
 exact ⟨_,_,Weak.refl _,Hp.le.refl _,i,hi,rfl,rfl⟩
theorem g_sortedB (i m:Nat) (es:List (ByteArray × AV)) (ns:List ByteArray) (h:Hp) (hi:h.H i=some (.cells [.map m])) (hm:h.H m=some (.map es)) (hmem:∀ k,k∈es.map (·.1)↔k∈ns) (hsz:∀ k∈es.map (·.1),k.size≤1000000) (hl:es.length≤100000) :
  ACalls Tryz.prog 82 [.fn 159 [.ptr i 0]] h (fun r h'=>r=.row 1 ((onceS ns).map encS) none∧h'=h):=by
 refine acalls_mk (by kernel_rfl) fun G w vs hs hv ha=>?_
 have hr:=ha 0 (by simp)
 have hvs:vs=#[vs.getD 0 undef]:=by
  have hv1:vs.size=1:=hv
  apply Array.ext (by simpa using hv1)
  intro j hj hj'
  simp only [List.size_toArray,List.length_cons,List.length_nil] at hj'
  obtain rfl:j=0:=by omega
  simp [Array.getD,hv1]
 rw [hvs]
 generalize vs.getD 0 undef=v at *
 simp only [List.getElem_cons_zero] at hr
 cases hr with
 | fn _ _ us u hlu huu hru =>
 have h0:=hru 0 (by simp)
 have hu0:=huu 0 (by simp)
 simp only [List.getElem_cons_zero] at h0
 have hus:us=#[u 0]:=by
  have hl1:us.size=1:=hlu
  apply Array.ext (by simpa using hl1)
  intro j hj hj'
  simp only [List.size_toArray,List.length_cons,List.length_nil] at hj'
  obtain rfl:j=0:=by omega
  rw [Array.getElem?_eq_getElem hj] at hu0
  simpa using hu0
 rw [hus]
 generalize u 0=p0 at h0
 cases h0 with
 | ptr _ _ p hat =>
 obtain ⟨p',ob,e',hh,⟨cs,E,rfl,hcr⟩,_⟩:=hs.obj i _ hi
 rw [hat] at e';cases e'
 obtain ⟨x,hx,hrx,_⟩:=hcr.getD (j:=0) (by simp)
 simp only [List.getD_cons_zero] at hrx
 cases hrx with
 | map _ b hab =>
 have hcell:w.cell? ⟨p,0,none⟩=some (.map (some b)):=by
  rw [List.getElem?_take] at hx
  split at hx
  ·simpa [World.cell?,hh] using hx
  ·cases hx
 obtain ⟨b',ob,e',hhb,⟨ents,clock,rfl,hst,hsize,hent⟩,_⟩:=hs.obj m _ hm
 rw [hab] at e';cases e'
 have hkeys:ents.toList.map keyL=es.map (fun q=>q.1.data.toList):=by
  apply List.ext_getElem (by simpa using hsize)
  intro j h1 h2
  have h3:=hent j (by simpa using h2) (by simpa using h1)
  simp only [List.getElem_map,Array.getElem_toList,keyL,h3.1]
 have hks:∀ x∈ents.toList,∃ s:ByteArray,x.key=.string s∧s.size≤maxLen:=fun x hx=>by
  obtain ⟨j,hj,e⟩:=List.getElem_of_mem hx
  have hj2:j < ents.size:=by simpa using hj
  have hj3:j < es.length:=by omega
  have h3:=hent j hj3 hj2
  have hmx:(1000000:Nat)≤maxLen:=by decide
  refine ⟨es[j].1,by rw [← e];simpa using h3.1,Nat.le_trans (hsz _ (List.mem_map.2 ⟨es[j],List.getElem_mem hj3,rfl⟩)) hmx⟩
 have hnd:(es.map (fun q=>q.1.data.toList)).Nodup:=by
  rw [← hkeys]
  have h3:ents.toList.map (fun x=>x.key)=(ents.toList.map keyL).map encStr:=by
   rw [List.map_map]
   refine List.map_congr_left fun x hx=>?_
   obtain ⟨s,e,_⟩:=hks x hx
   simp [keyL,e,encStr]
  have h4:=hst.2.2
  rw [h3] at h4
  exact List.Pairwise.of_map encStr (fun a b h e=>h (by rw [e])) h4
 refine (sorted_walkB p b ents clock w hcell hhb hst hks (by omega)).mono ?_
 rintro _ w' ⟨v',ss,rfl,hperm,own,bel⟩
 rw [hkeys] at hperm
 have hmm:∀ x,x∈ss↔x∈ns.map (·.data.toList):=fun x=>by
  rw [hperm.mem_iff,List.mem_map,List.mem_map]
  constructor
  ·rintro ⟨q,hq,rfl⟩;exact ⟨q.1,(hmem q.1).1 (List.mem_map.2 ⟨q,hq,rfl⟩),rfl⟩
  ·rintro ⟨k,hk,rfl⟩
   obtain ⟨q,hq,rfl⟩:=List.mem_map.1 ((hmem k).2 hk)
   exact ⟨q,hq,rfl⟩
 have hko:=keys_once (hperm.nodup_iff.2 hnd) hmm
 have hsl:ss.length=(onceS ns).length:=by
  have:=congrArg List.length hko
  rw [List.length_mergeSort] at this
  rw [this,onceS,List.length_map]
 rw [hko,onceS_cells,hsl] at own
 obtain ⟨G',g1,f1,s1,r1⟩:=row_of_own hs bel own (xs:=(onceS ns).map encS) (by simp) (fun x hx=>by obtain ⟨y,_,rfl⟩:=List.mem_map.1 hx;rfl) (by rw [flat_encS];exact repL_strs G _)
 exact ⟨v',rfl,_,h,G',⟨rfl,rfl⟩,g1,f1,s1,r1⟩
abbrev zP1KE:List Nat:=[0,1,2,3,4,5,6,7,8]
abbrev zP1KP:List (Nat × List Nat × List Nat):=[(9,[3],[10,11])]
attribute [go_sem] zP1KE zP1KP
theorem g_ixP (fid:Nat) (xs:List AT) (K:AV) (hK:kidsC xs K) (hl:xs.length≤100000) (I P:Nat→Hp→Prop) (h:Hp) (h0:I 0 h)
  (step:∀ j h,j < xs.length→I j h→ACalls Tryz.prog fid [.ptr (xs.getD j default).id 0] h (fun r h'=>∃ b,r=.v (.bool b)∧(b=true→P j h')∧(b=false→I (j+1) h'))) :
  ACalls Tryz.prog 256 [K,.fn fid []] h (fun r h'=>(∃ j:Nat,j < xs.length∧r=.v (.int .i64 j)∧P j h')∨r=.v (.int .i64 (-1))∧I xs.length h'):=by
 rcases hK with ⟨rfl,rfl⟩|⟨tk,rfl⟩
 ·refine gE Tryz.func256 rfl (by kernel_rfl) 17 rfl fun c=>?_
  (repeat (first|refine gO rfl ?_|(refine gR fun K1 hK1=>?_;simp only [go_sem,↓reduceIte,reduceCtorEq,nA,nB,nC,nD,nE,nF]<;>and_intros<;>(apply hK1;clear hK1 K1))))
  refine awp_loopC (rl false [7,2,10]) 0 (fun g s=>s=⟨((jnk 7 ((.v (.int .i64 0)) :: (.v (.int .i64 0)) :: (jnk 10 [])))),[],h⟩) 0 rfl ?_
  rintro g _ rfl
  (repeat (first|refine gO rfl ?_|(refine gR fun K1 hK1=>?_;simp only [go_sem,↓reduceIte,reduceCtorEq,nA,nB,nC,nD,nE,nF]<;>and_intros<;>(apply hK1;clear hK1 K1))))
  refine awp_cond (t:=_) rfl (fun h1=>by cases h1) (fun h1=>?_)
  (repeat (first|refine gO rfl ?_|(refine gR fun K1 hK1=>?_;simp only [go_sem,↓reduceIte,reduceCtorEq,nA,nB,nC,nD,nE,nF]<;>and_intros<;>(apply hK1;clear hK1 K1))))
  simp only [Tryz.results256,go_sem,↓reduceIte,reduceCtorEq,nA,nB,nC,nD,nE,nF]
  exact ⟨_,_,Weak.refl _,Hp.le.refl _,.inr ⟨rfl,h0⟩⟩
 ·refine gE Tryz.func256 rfl (by kernel_rfl) 17 rfl fun c=>?_
  (repeat (first|refine gO rfl ?_|(refine gR fun K1 hK1=>?_;simp only [go_sem,↓reduceIte,reduceCtorEq,nA,nB,nC,nD,nE,nF]<;>and_intros<;>(apply hK1;clear hK1 K1))))
  refine awp_loopC (rl false [0,2,5,2,10]) 0 (fun g s=>∃ (j:Nat) (h':Hp),g+j=xs.length∧I j h'∧s=⟨((.row 1 (xs.map fun a=>[.ptr a.id 0]) tk) :: (.fn fid []) :: (jnk 5 ((.v (.int .i64 xs.length)) :: (.v (.int .i64 j)) :: (jnk 10 [])))),[],h'⟩) xs.length ⟨0,h,by omega,h0,rfl⟩ ?_
  rintro g _ ⟨j,h',hj,hI,rfl⟩
  (repeat (first|refine gO rfl ?_|(refine gR fun K1 hK1=>?_;simp only [go_sem,↓reduceIte,reduceCtorEq,nA,nB,nC,nD,nE,nF]<;>and_intros<;>(apply hK1;clear hK1 K1))))
  refine awp_cond (t:=_) rfl (fun h1=>?_) (fun h1=>?_)
  ·simp only [decide_eq_true_eq] at h1
   have hjk:j < xs.length:=by omega
   have hg:(xs.map fun a:AT=>[AV.ptr a.id 0]).getD j []=[.ptr (xs.getD j default).id 0]:=getD_enc (fun a:AT=>[AV.ptr a.id 0]) xs j default hjk
   have st:=step j h' hjk hI
   (repeat (first|refine gO rfl ?_|(refine gR fun K1 hK1=>?_;simp only [go_sem,↓reduceIte,reduceCtorEq,nA,nB,nC,nD,nE,nF,Int.toNat_natCast,hg]<;>and_intros<;>first|(apply hK1;clear hK1 K1)|(intros;(omega))|skip)))
   refine st.mono ?_;rintro _ _ ⟨b,rfl,hb1,hb2⟩;apply hK1;clear hK1 K1
   (repeat ((refine gO rfl ?_)))
   refine awp_cond (t:=_) rfl (fun h2=>?_) (fun h2=>?_)
   ·(repeat (first|refine gO rfl ?_|(refine gR fun K1 hK1=>?_;simp only [go_sem,↓reduceIte,reduceCtorEq,nA,nB,nC,nD,nE,nF]<;>and_intros<;>(apply hK1;clear hK1 K1))))
    simp only [Tryz.results256,go_sem,↓reduceIte,reduceCtorEq,nA,nB,nC,nD,nE,nF]
    exact ⟨_,_,Weak.refl _,Hp.le.refl _,.inl ⟨j,hjk,rfl,hb1 h2⟩⟩
   ·(repeat (first|refine gO rfl ?_|(refine gR fun K1 hK1=>?_;simp only [go_sem,↓reduceIte,reduceCtorEq,nA,nB,nC,nD,nE,nF]<;>and_intros<;>first|(apply hK1;clear hK1 K1)|(intros;(omega)))))
    exact ⟨g - 1,by omega,j+1,_,by omega,hb2 h2,rfl⟩
  ·simp only [decide_eq_false_iff_not] at h1
   have hjk:j=xs.length:=by omega
   subst hjk
   (repeat (first|refine gO rfl ?_|(refine gR fun K1 hK1=>?_;simp only [go_sem,↓reduceIte,reduceCtorEq,nA,nB,nC,nD,nE,nF]<;>and_intros<;>(apply hK1;clear hK1 K1))))
   simp only [Tryz.results256,go_sem,↓reduceIte,reduceCtorEq,nA,nB,nC,nD,nE,nF]
   exact ⟨_,_,Weak.refl _,Hp.le.refl _,.inr ⟨rfl,hI⟩⟩
theorem g_coP (fid:Nat) (xs:List AT) (K:AV) (hK:kidsC xs K) (hl:xs.length≤100000) (q:Nat→Bool) (h:Hp)
  (step:∀ j,j < xs.length→ACalls Tryz.prog fid [.ptr (xs.getD j default).id 0] h (fun r h'=>r=.v (.bool (!q j))∧h'=h)) :
  ACalls Tryz.prog 201 [K,.fn fid []] h (fun r h'=>r=.v (.bool (!(List.range xs.length).all q))∧h'=h):=by
 have hi:=g_ixP fid xs K hK hl (fun j h'=>h'=h∧∀ l,l < j→q l=true) (fun j h'=>h'=h∧q j=false) h ⟨rfl,fun l hl=>by omega⟩ (fun j h' hj ⟨e,hI⟩=>by
  rw [e]
  refine (step j hj).mono ?_
  rintro _ h2 ⟨rfl,e2⟩
  refine ⟨_,rfl,fun hb=>⟨e2,by simpa using hb⟩,fun hb=>⟨e2,fun l hl=>?_⟩⟩
  by_cases hlj:l=j
  ·rw [hlj];simpa using hb
  ·exact hI l (by omega))
 have o3:OneV K:=by rcases hK with ⟨_,rfl⟩|⟨tk,rfl⟩<;>exact ⟨rfl,rfl,rfl,rfl,rfl⟩
 obtain ⟨w1,w2,w3,w4,w5⟩:=o3
 unfold uside at w1;unfold unw at w2;unfold AV.noLoc at w3;unfold isOpt at w4;simp only [AV.cellsB,Value.oneCell'] at w5
 refine gE Tryz.func201 rfl (by kernel_rfl) 7 rfl fun c=>?_
 (repeat (first|refine gO rfl ?_|(refine gR fun K1 hK1=>?_;simp only [go_sem,↓reduceIte,reduceCtorEq,nA,nB,nC,nD,nE,nF,w1,w2,w3,w4,w5]<;>and_intros<;>first|(apply hK1;clear hK1 K1)|skip)))
 refine hi.mono ?_
 rintro _ h' (⟨j,hj,rfl,rfl,hp⟩|⟨rfl,rfl,hi9⟩)
 ·refine hK1 _ ?_;clear hK1 K1
  have e9:(List.range xs.length).all q=false:=by
   rw [List.all_eq_false]
   exact ⟨j,by simpa using hj,by rw [hp];simp⟩
  (repeat (first|refine gO rfl ?_|(refine gR fun K1 hK1=>?_;simp only [go_sem,↓reduceIte,reduceCtorEq,nA,nB,nC,nD,nE,nF]<;>and_intros<;>(apply hK1;clear hK1 K1))))
  simp only [Tryz.results201,go_sem,↓reduceIte,reduceCtorEq,nA,nB,nC,nD,nE,nF]
  exact ⟨_,_,Weak.refl _,Hp.le.refl _,by rw [e9];simp,rfl⟩
 ·refine hK1 _ ?_;clear hK1 K1
  have e9:(List.range xs.length).all q=true:=by
   rw [List.all_eq_true]
   exact fun l hl=>hi9 l (by simpa using hl)
  (repeat (first|refine gO rfl ?_|(refine gR fun K1 hK1=>?_;simp only [go_sem,↓reduceIte,reduceCtorEq,nA,nB,nC,nD,nE,nF]<;>and_intros<;>(apply hK1;clear hK1 K1))))
  simp only [Tryz.results201,go_sem,↓reduceIte,reduceCtorEq,nA,nB,nC,nD,nE,nF]
  exact ⟨_,_,Weak.refl _,Hp.le.refl _,by rw [e9];simp,rfl⟩
theorem homeF_eq (d:Nat) (kind:Int) (item:ByteArray) (long many:Int) (kids:List LT) (shares:List Int) (p:Int) (cs:List Int) (ks:List PS) :
  homeF (d+1) (.mk kind item long many kids shares) (.mk p cs ks)=((p.tmod (everyF kind kids.length shares) == 0) && (List.range kids.length).all fun j=>homeF d (kids.getD j default) (ks.getD j default)):=rfl
theorem sum_bdI {l:List Int} (h:∀ x∈l,1≤x∧x≤1000) (hl:l.length≤1000):0≤l.sum∧l.sum≤1000000:=by
 have key:∀ l:List Int,(∀ x∈l,1≤x∧x≤1000)→0≤l.sum∧l.sum≤l.length * 1000:=fun l=>by
  induction l with
  | nil=>simp
  | cons y l ih=>intro h;have:=h y (by simp);have:=ih fun z hz=>h z (by simp [hz]);simp only [List.sum_cons,List.length_cons];omega
 have:=key l h
 omega
theorem g_beginsG:∀ (d:Nat) (t:LT) (a:AT) (s:PS) (h:Hp),VL d t→RAt XP h d t a s→PSB d t s 100000→ACalls Tryz.prog 142 [.ptr a.id 0] h (fun r h'=>r=.v (.bool (homeF d t s))∧h'=h)
 | 0,_,_,_,_,hv,_,_=>hv.elim
 | d+1,.mk kind item long many kids shares,.mk i c0 az,.mk p cs ks,h0,hv,hR,hB=>by
  obtain ⟨v1,v2,v3,v4,v5,v6,v7,v8⟩:=id hv
  obtain ⟨⟨K,hH,hK⟩,hT,⟨l1,l2,l3,l4⟩,hkids⟩:=id hR
  obtain ⟨c1,c2,c3⟩:=id hB
  have hH0:h0.H i=some (.cells [.v (.int .i64 kind),.v (.string item),.v (.int .i64 long),.v (.int .i64 many),.row 6 (kids.map encL) none,.row 1 (shares.map encI) none,K,.v (.int .i64 p),.arr 1 c0 kids.length,.v (.int .i64 shares.sum)]):=hH
  have o3:OneV K:=by rcases hK with ⟨_,rfl⟩|⟨tk,rfl⟩<;>exact ⟨rfl,rfl,rfl,rfl,rfl⟩
  obtain ⟨w1,w2,w3,w4,w5⟩:=o3
  unfold uside at w1;unfold unw at w2;unfold AV.noLoc at w3;unfold isOpt at w4;simp only [AV.cellsB,Value.oneCell'] at w5
  have hclo:∀ j,j < az.length→ACalls Tryz.prog 202 [.ptr (az.getD j default).id 0] h0 (fun r h'=>r=.v (.bool (!homeF d (kids.getD j default) (ks.getD j default)))∧h'=h0):=fun j hj=>by
   have g1:=g_beginsG d _ _ _ h0 (v8 _ (getD_mem' kids j default (by omega))) (hkids j (by omega)) (c3 j (by omega))
   refine gE Tryz.func202 rfl (by kernel_rfl) 5 rfl fun c=>?_
   (repeat (first|refine gO rfl ?_|(refine gR fun K1 hK1=>?_;simp only [go_sem,↓reduceIte,reduceCtorEq,nA,nB,nC,nD,nE,nF]<;>and_intros<;>first|(apply hK1;clear hK1 K1)|skip)))
   refine g1.mono ?_;rintro _ hz ⟨rfl,hh⟩;apply hK1;clear hK1 K1;rw [hh];clear hh hz
   (repeat (first|refine gO rfl ?_|(refine gR fun K1 hK1=>?_;simp only [go_sem,↓reduceIte,reduceCtorEq,nA,nB,nC,nD,nE,nF]<;>and_intros<;>(apply hK1;clear hK1 K1))))
   simp only [Tryz.results202,go_sem,↓reduceIte,reduceCtorEq,nA,nB,nC,nD,nE,nF]
   exact ⟨_,_,Weak.refl _,Hp.le.refl _,rfl,rfl⟩
  have hcon:=g_coP 202 az K hK (by omega) (fun j=>homeF d (kids.getD j default) (ks.getD j default)) h0 hclo
  rw [l3] at hcon
  have hdiv:=g_divisorP shares h0 v7.2 v6
  have hev:=every_pos hv
  show ACalls Tryz.prog 142 [.ptr i 0] h0 _
  rw [homeF_eq]
  have hef:everyF kind kids.length shares=if kind=3 then (kids.length:Int) else if kind=4 then shares.sum / gcdI shares else 1:=rfl
  generalize hQ:(List.range kids.length).all (fun j=>homeF d (kids.getD j default) (ks.getD j default))=qq at *
  refine gE Tryz.func142 rfl (by kernel_rfl) 43 rfl fun c=>?_
  (repeat (first|refine gQ rfl ?_|((refine gR fun K1 hK1=>?_;simp only [go_sem,↓reduceIte,reduceCtorEq,nA,nB,nC,nD,nE,nF,hH0]<;>and_intros<;>(apply hK1;clear hK1 K1)))))
  refine awp_seq ?_
  refine awp_join (rl false [0,1,2,1,40]) 0 (fun s=>s=⟨((.ptr i 0) :: AV.junk :: AV.junk :: ((.v (.int .i64 (everyF kind kids.length shares))) :: (jnk 40 []))),[],h0⟩) ?_ ?_
  ·by_cases h3:kind=3
   ·have e3:(kind == 3)=true:=by simp;exact h3
    obtain ⟨tk,rfl⟩:∃ tk,K=.row 1 (az.map fun a=>[.ptr a.id 0]) tk:=by
     rcases hK with ⟨rfl,_⟩|h9
     ·simp at l3;exact absurd (List.eq_nil_of_length_eq_zero l3.symm) (v3 (by omega))
     ·exact h9
    (repeat (first|refine gO rfl ?_|((refine gR fun K1 hK1=>?_;simp only [go_sem,↓reduceIte,reduceCtorEq,nA,nB,nC,nD,nE,nF,hH0,e3]<;>and_intros<;>(apply hK1;clear hK1 K1)))))
    refine awp_cond (t:=_) rfl (fun _=>?_) (fun h=>by cases h)
    (repeat (first|refine gO rfl ?_|((refine gR fun K1 hK1=>?_;simp only [go_sem,↓reduceIte,reduceCtorEq,nA,nB,nC,nD,nE,nF,hH0,l3]<;>and_intros<;>(apply hK1;clear hK1 K1)))))
    rw [hef,if_pos h3];rfl
   ·have e3:(kind == 3)=false:=by simp;exact h3
    by_cases h4:kind=4
    ·have e4:(kind == 4)=true:=by simp;exact h4
     have hne:shares≠[]:=fun e=>v3 (by omega) (List.eq_nil_of_length_eq_zero (by rw [← v5 h4,e];rfl))
     have hgp:=gcdI_pos (fun x hx=>(v6 x hx).1) hne
     have hsb:=sum_bdI v6 v7.2
     have hq2:shares.sum.tdiv (gcdI shares:Int)=shares.sum / (gcdI shares:Int):=Int.tdiv_eq_ediv_of_nonneg hsb.1
     have hq3:0≤shares.sum / (gcdI shares:Int)∧shares.sum / (gcdI shares:Int)≤shares.sum:=⟨Int.ediv_nonneg hsb.1 (by omega),Int.ediv_le_self _ hsb.1⟩
     (repeat (first|refine gO rfl ?_|((refine gR fun K1 hK1=>?_;simp only [go_sem,↓reduceIte,reduceCtorEq,nA,nB,nC,nD,nE,nF,hH0,e3,e4]<;>and_intros<;>(apply hK1;clear hK1 K1)))))
     refine awp_cond (t:=_) rfl (fun h=>by cases h) (fun _=>?_)
     (repeat (first|refine gO rfl ?_|((refine gR fun K1 hK1=>?_;simp only [go_sem,↓reduceIte,reduceCtorEq,nA,nB,nC,nD,nE,nF,hH0,e3,e4]<;>and_intros<;>(apply hK1;clear hK1 K1)))))
     refine awp_cond (t:=_) rfl (fun _=>?_) (fun h=>by cases h)
     (repeat (((first|refine gR ?_|((with_reducible refine xR ?_);refine uE 6 zM33 zP1KE zP1KP 44 rfl (by kernel_rfl) ?_))<;>((try with_reducible intro K1 hK1);simp only [go_sem,↓reduceIte,reduceCtorEq,nA,nB,nC,nD,nE,nF,hH0,hq2]<;>and_intros<;>first|(apply hK1;clear hK1 K1)|skip))))
     refine hdiv.mono ?_;rintro _ hz ⟨rfl,hh⟩;apply hK1;clear hK1 K1;rw [hh];clear hh hz
     (repeat (first|refine gO rfl ?_|(((with_reducible refine wM ?_ ?_))<;>((try with_reducible intro K1 hK1);simp only [go_sem,↓reduceIte,reduceCtorEq,nA,nB,nC,nD,nE,nF,hH0,hq2]<;>and_intros<;>first|(apply hK1;clear hK1 K1)|(intros;first|omega|decide|(simp_all<;>omega))))))
     rw [hef,if_neg h3,if_pos h4];rfl
    ·have e4:(kind == 4)=false:=by simp;exact h4
     (repeat (first|refine gO rfl ?_|((refine gR fun K1 hK1=>?_;simp only [go_sem,↓reduceIte,reduceCtorEq,nA,nB,nC,nD,nE,nF,hH0,e3,e4]<;>and_intros<;>(apply hK1;clear hK1 K1)))))
     refine awp_cond (t:=_) rfl (fun h=>by cases h) (fun _=>?_)
     (repeat (first|refine gO rfl ?_|((refine gR fun K1 hK1=>?_;simp only [go_sem,↓reduceIte,reduceCtorEq,nA,nB,nC,nD,nE,nF,hH0,e3,e4]<;>and_intros<;>(apply hK1;clear hK1 K1)))))
     refine awp_cond (t:=_) rfl (fun h=>by cases h) (fun _=>?_)
     (repeat ((refine gO rfl ?_)))
     rw [hef,if_neg h3,if_neg h4];rfl
  ·rintro _ rfl
   generalize everyF kind kids.length shares=ev at *
   rcases hb:(p.tmod ev == 0) with _|_
   ·(repeat (((refine gR fun K1 hK1=>?_;simp only [go_sem,↓reduceIte,reduceCtorEq,nA,nB,nC,nD,nE,nF,hH0,w1,w2,w3,w4,w5,hb]<;>and_intros<;>first|(apply hK1;clear hK1 K1)|(intros;(omega))|skip))))
    refine ⟨.v (.bool false),rfl,True.intro,hK1 _ ?_⟩;clear hK1 K1
    (repeat ((refine gO rfl ?_)))
    simp only [Tryz.results142,go_sem,↓reduceIte,reduceCtorEq,nA,nB,nC,nD,nE,nF]
    exact ⟨_,_,Weak.refl _,Hp.le.refl _,rfl,rfl⟩
   ·(repeat (((refine gR fun K1 hK1=>?_;simp only [go_sem,↓reduceIte,reduceCtorEq,nA,nB,nC,nD,nE,nF,hH0,w1,w2,w3,w4,w5,hb]<;>and_intros<;>first|(intros;first|omega|(simp_all<;>omega))|skip))))
    refine hcon.mono ?_;rintro _ hz ⟨rfl,hh⟩;refine ⟨rfl,hK1 _ ?_⟩;clear hK1 K1;rw [hh];clear hh hz
    (repeat (first|refine gO rfl ?_|((refine gR fun K1 hK1=>?_;simp only [go_sem,↓reduceIte,reduceCtorEq,nA,nB,nC,nD,nE,nF,hH0,w1,w2,w3,w4,w5,hb]<;>and_intros<;>(apply hK1;clear hK1 K1)))))
    simp only [Tryz.results142,go_sem,↓reduceIte,reduceCtorEq,nA,nB,nC,nD,nE,nF]
    exact ⟨_,_,Weak.refl _,Hp.le.refl _,by simp,rfl⟩
def PassRel (d:Nat) (t:LT) (s:PS) (out:List (ByteArray × Int)) (s':PS) (out':List (ByteArray × Int)):Prop :=
 (5000 < out.length→s'=s∧out'=out)∧(out.length≤5000→out.length+(passU d t s).2.length≤5000→s'=(passU d t s).1∧out'=out++(passU d t s).2) ∧
 (out.length≤5000→5000 < out.length+(passU d t s).2.length→out'.length=5001∧PSB d t s' 5001)
def RunR (d:Nat) (kids:List LT) (out:List (ByteArray × Int)) (acc:(List Int × List PS) × List (ByteArray × Int)) (cs:List Int) (ks:List PS) (out':List (ByteArray × Int)):Prop :=
 FOk d kids out'.length (cs,ks)∧out'.length≤5001∧(out.length+acc.2.length≤5000→(cs,ks)=acc.1∧out'=out++acc.2)∧(5000 < out.length+acc.2.length→out'.length=5001)
theorem set_getD {α:Type} (l:List α) (x:Nat) (d:α):l.set x (l.getD x d)=l:=by
 by_cases h:x < l.length
 ·rw [List.getD_eq_getElem?_getD,List.getElem?_eq_getElem h];simp
 ·rw [List.set_eq_of_length_le (by omega)]
theorem RunR.step {d:Nat} {kids:List LT} {out:List (ByteArray × Int)} {acc:(List Int × List PS) × List (ByteArray × Int)} {cs:List Int} {ks:List PS} {out':List (ByteArray × Int)} (hR:RunR d kids out acc cs ks out') {x:Nat} (hx:x < kids.length)
  (hv:VL d (kids.getD x default)) (hf:Fits d (kids.getD x default) (ks.getD x default)) {s'':PS} {out'':List (ByteArray × Int)} (hp:PassRel d (kids.getD x default) (ks.getD x default) out' s'' out'') :
  RunR d kids out (stepU (passU d) kids acc x) (if out.length+acc.2.length≤5000 then cs.set x (cs.getD x 0+1) else cs) (ks.set x s'') out'':=by
 obtain ⟨h1,h2,h3,h4⟩:=hR
 obtain ⟨p1,p2,p3⟩:=hp
 obtain ⟨⟨f1,f2⟩,f3,f4⟩:=id h1
 have hpo:=passU_ok d (kids.getD x default) (ks.getD x default) out'.length hv hf (by omega) (f4 x hx)
 by_cases hex:out.length+acc.2.length≤5000
 ·rw [if_pos hex]
  obtain ⟨e1,e2⟩:=h3 hex
  have e3:acc.1.1=cs:=by rw [← e1]
  have e4:acc.1.2=ks:=by rw [← e1]
  have e5:out'.length=out.length+acc.2.length:=by rw [e2,List.length_append]
  have hst:(stepU (passU d) kids acc x).1=(cs.set x (cs.getD x 0+1),ks.set x (passU d (kids.getD x default) (ks.getD x default)).1):=by simp only [stepU,e3,e4]
  have hs2:(stepU (passU d) kids acc x).2=acc.2++(passU d (kids.getD x default) (ks.getD x default)).2:=by simp only [stepU,e4]
  by_cases hk:out'.length+(passU d (kids.getD x default) (ks.getD x default)).2.length≤5000
  ·obtain ⟨rfl,rfl⟩:=p2 (by omega) hk
   have hh:FOk d kids out'.length acc.1:=by rw [← e1];exact h1
   obtain ⟨s1,s2⟩:=stepU_ok (f:=passU d) (a:=acc) hh hx (by rw [e4]) hpo.1 (by rw [e4];exact hpo.2.1)
   rw [hst] at s1
   refine ⟨by rw [List.length_append];exact_mod_cast s1,by rw [List.length_append];omega,fun _=>⟨hst.symm,by rw [hs2,e2,List.append_assoc]⟩,fun h=>?_⟩
   rw [hs2,List.length_append] at h;omega
  ·obtain ⟨q1,q2⟩:=p3 (by omega) (by omega)
   have q1':(out''.length:Int)=5001:=by omega
   refine ⟨⟨⟨by simpa using f1,by simpa using f2⟩,fun y hy=>?_,fun j hj=>?_⟩,by omega,fun h=>?_,fun _=>q1⟩
   ·rw [q1']
    rcases mem_set_or hy with h|h
    ·have:=f3 y h;omega
    ·have:=f3 _ (getD_mem' cs x 0 (show x < cs.length from by have:cs.length=kids.length:=f1;omega));omega
   ·rw [q1']
    show PSB d (kids.getD j default) ((ks.set x s'').getD j default) 5001
    by_cases hxj:x=j
    ·subst hxj;rw [getD_setS _ _ _ _ (by have:ks.length=kids.length:=f2;omega)];exact q2
    ·rw [getD_setN _ _ _ _ _ hxj];exact (f4 j hj).mono (by omega)
   ·rw [hs2,List.length_append] at h;omega
 ·rw [if_neg hex]
  have e5:=h4 (by omega)
  obtain ⟨rfl,rfl⟩:=p1 (by omega)
  rw [set_getD]
  have hs2:acc.2.length≤(stepU (passU d) kids acc x).2.length:=by simp [stepU]
  exact ⟨h1,h2,fun h=>by omega,fun _=>e5⟩
def oEx:List AV:=[.v (.int .i64 5000)]
def St2 (d:Nat) (t:LT) (kids:List LT) (a:AT) (p:Int) (h:Hp) (o k:Nat) (out:List (ByteArray × Int)) (acc:(List Int × List PS) × List (ByteArray × Int)) (h1:Hp) (cs:List Int) (ks:List PS) (out':List (ByteArray × Int)):Prop :=
 RAt XP h1 (d+1) t a (.mk p cs ks)∧OutAt h1 o k oEx out'∧FrP a o k h h1∧RunR d kids out acc cs ks out'
def PRp (d:Nat) (t:LT) (a:AT) (s:PS) (h:Hp) (o k:Nat) (out:List (ByteArray × Int)) (r:AV) (h':Hp):Prop :=
 r=.tup []∧∃ s' out',RAt XP h' d t a s'∧OutAt h' o k oEx out'∧FrP a o k h h'∧PassRel d t s out s' out'
theorem RAt.counts {h:Hp} {d:Nat} {kind:Int} {item:ByteArray} {long many:Int} {kids:List LT} {shares:List Int} {a:AT} {p:Int} {cs cs':List Int} {ks:List PS} (h4:kind≠4) (hl:cs'.length=cs.length)
  (hR:RAt XP h (d+1) (.mk kind item long many kids shares) a (.mk p cs ks)):RAt XP h (d+1) (.mk kind item long many kids shares) a (.mk p cs' ks):=by
 cases a with
 | mk i c az =>
  obtain ⟨h1,h2,⟨l1,l2,l3,l4⟩,h5⟩:=hR
  have e:XP.cf kind cs'=XP.cf kind cs:=by simp only [XP,if_neg h4,hl]
  exact ⟨h1,by rw [e];exact h2,⟨by rw [e];exact l1,by omega,l3,l4⟩,h5⟩
theorem St2.next {d:Nat} {kind:Int} {item:ByteArray} {long many:Int} {kids:List LT} {shares:List Int} {i c:Nat} {az:List AT} {p:Int} {h:Hp} {o k:Nat} {out:List (ByteArray × Int)} {acc:(List Int × List PS) × List (ByteArray × Int)} {h1:Hp} {cs:List Int} {ks:List PS} {out':List (ByteArray × Int)}
  (hs:St2 d (.mk kind item long many kids shares) kids (.mk i c az) p h o k out acc h1 cs ks out') (h4:kind≠4) (hS:Sep (d+1) (.mk i c az)) (ho:o ∉ idsT (.mk i c az)) {x:Nat} (hx:x < kids.length) (hv:VL d (kids.getD x default))
  {r:AV} {h3:Hp} (hp:PRp d (kids.getD x default) (az.getD x default) (ks.getD x default) h1 o k out' r h3):∃ cs' ks' out'',St2 d (.mk kind item long many kids shares) kids (.mk i c az) p h o k out (stepU (passU d) kids acc x) h3 cs' ks' out'':=by
 obtain ⟨g1,g2,g3,g4⟩:=hs
 obtain ⟨rfl,s',out'',r1,r2,r3,r4⟩:=hp
 obtain ⟨_,_,⟨l1,l2,l3,l4⟩,hk⟩:=id g1
 have hkt:=g1.tokNe g2.2
 refine ⟨if out.length+acc.2.length≤5000 then cs.set x (cs.getD x 0+1) else cs,ks.set x s',out'',(g1.kid hS ho hkt hx r1 r3).counts h4 (by split<;>simp),r2,g3.trans (r3.kid (by omega)),g4.step hx hv (hk x hx).fits r4⟩
theorem St2.ask {d:Nat} {kind:Int} {item:ByteArray} {long many:Int} {kids:List LT} {shares:List Int} {i c:Nat} {az:List AT} {p:Int} {h:Hp} {o k:Nat} {out:List (ByteArray × Int)} {acc:(List Int × List PS) × List (ByteArray × Int)} {h1:Hp} {cs:List Int} {ks:List PS} {out':List (ByteArray × Int)}
  (hs:St2 d (.mk kind item long many kids shares) kids (.mk i c az) p h o k out acc h1 cs ks out') (hS:Sep (d+1) (.mk i c az)) (ho:o ∉ idsT (.mk i c az)) {x:Nat} (hx:x < kids.length) :
  RAt XP h1 d (kids.getD x default) (az.getD x default) (ks.getD x default)∧Sep d (az.getD x default)∧PSB d (kids.getD x default) (ks.getD x default) out'.length∧OutAt h1 o k oEx out'∧o ∉ idsT (az.getD x default)∧out'.length≤5001:=by
 obtain ⟨g1,g2,g3,g4⟩:=hs
 obtain ⟨_,_,⟨l1,l2,l3,l4⟩,hk⟩:=id g1
 exact ⟨hk x hx,(hS x (by omega)).1.2.2,g4.1.2.2 x hx,g2,fun hh=>ho (idsT_kid (by omega) hh),g4.2.1⟩
theorem St2.cells {d:Nat} {kind:Int} {item:ByteArray} {long many:Int} {kids:List LT} {shares:List Int} {i c:Nat} {az:List AT} {p:Int} {h:Hp} {o k:Nat} {out:List (ByteArray × Int)} {acc:(List Int × List PS) × List (ByteArray × Int)} {h1:Hp} {cs:List Int} {ks:List PS} {out':List (ByteArray × Int)}
  (hs:St2 d (.mk kind item long many kids shares) kids (.mk i c az) p h o k out acc h1 cs ks out') (hne:kids≠[]):(∃ tk,h1.H i=some (.cells [.v (.int .i64 kind),.v (.string item),.v (.int .i64 long),.v (.int .i64 many),.row 6 (kids.map encL) none,.row 1 (shares.map encI) none,.row 1 (az.map fun a=>[.ptr a.id 0]) tk,.v (.int .i64 p),.arr 1 c kids.length,.v (.int .i64 shares.sum)]))∧az.length=kids.length:=by
 obtain ⟨⟨⟨K,h1,hK⟩,_,⟨l1,l2,l3,l4⟩,_⟩,_⟩:=hs
 refine ⟨?_,l3⟩
 rcases hK with ⟨rfl,_⟩|⟨tk,rfl⟩
 ·simp at l3;exact absurd (List.eq_nil_of_length_eq_zero l3.symm) hne
 ·exact ⟨tk,h1⟩
abbrev zP1LE:List Nat:=[0,1,2,3,4,5,6,7,8,9,10,11,12,13,14,15,16]
abbrev zP1LP:List (Nat × List Nat × List Nat):=[(17,[],[18,19]),(20,[],[])]
abbrev zP1ME:List Nat:=[0,1,2,3,4,5,6,7,8,9,10,11,12,13,14,15,16]
abbrev zP1MP:List (Nat × List Nat × List Nat):=[(17,[],[])]
attribute [go_sem] zP1LE zP1LP zP1ME zP1MP
def PassJp (d:Nat) (kind:Int) (item:ByteArray) (long many:Int) (kids:List LT) (shares:List Int) (i c0:Nat) (az:List AT) (p:Int) (cs:List Int) (ks:List PS) (h:Hp) (o k:Nat) (out:List (ByteArray × Int)) (s:St):Prop :=
 ∃ h1 cs' ks' out',St2 d (.mk kind item long many kids shares) kids (.mk i c0 az) p h o k out ((idxL kind p many kids.length (nextF shares p cs)).foldl (stepU (passU d) kids) ((cs,ks),if kind=1 then [(item,long)] else [])) h1 cs' ks' out' ∧
  s=⟨((.ptr i 0) :: (.ptr o 0) :: (jnk 114 [])),[],h1⟩
theorem g_passP:∀ (d:Nat) (t:LT) (a:AT) (s:PS) (h:Hp) (o k:Nat) (out:List (ByteArray × Int)),VL d t→RAt XP h d t a s→Sep d a→PSB d t s out.length→OutAt h o k oEx out→o ∉ idsT a→out.length≤5001 →
  ACalls Tryz.prog 76 [.ptr a.id 0,.ptr o 0] h (PRp d t a s h o k out)
 | 0,_,_,_,_,_,_,_,hv,_,_,_,_,_,_=>hv.elim
 | d+1,.mk kind item long many kids shares,.mk i c0 az,.mk p cs ks,h,o,k,out,hv,hR,hS,hB,hO,ho,hout=>by
  have hfit:=hR.fits
  have hkt:=hR.tokNe hO.2
  obtain ⟨v1,v2,v3,v4,v5,v6,v7,v8⟩:=id hv
  obtain ⟨⟨K,hH,hK⟩,hT,⟨l1,l2,l3,l4⟩,hkids⟩:=id hR
  have hH0:h.H i=some (.cells [.v (.int .i64 kind),.v (.string item),.v (.int .i64 long),.v (.int .i64 many),.row 6 (kids.map encL) none,.row 1 (shares.map encI) none,K,.v (.int .i64 p),.arr 1 c0 kids.length,.v (.int .i64 shares.sum)]):=hH
  have hO1:h.H o=some (.cells [.row 2 (out.map encStep) (some k),.v (.int .i64 5000)]):=hO.1
  have hO2:h.T k=some (.tail out.length):=hO.2
  have hfr0:FrP (.mk i c0 az) o k h h:=⟨fun _ _ _=>rfl,fun _ _ _=>rfl⟩
  show ACalls Tryz.prog 76 [.ptr i 0,.ptr o 0] h _
  refine gE Tryz.func76 rfl (by kernel_rfl) 114 rfl fun c=>?_
  (repeat (first|refine gO rfl ?_|((((with_reducible refine yS ?_);refine awp_keep zK30 100 (kS ?_)))<;>((try with_reducible intro K1 hK1);simp only [go_sem,↓reduceIte,reduceCtorEq,nA,nB,nC,nD,nE,nF,nG,nH,nI]<;>and_intros))))
  refine (g_full28 o k h out hO).mono ?_;rintro _ hz ⟨rfl,hh⟩;apply hK1;clear hK1 K1;rw [hh];clear hh hz
  (repeat ((refine gO rfl ?_)))
  refine awp_cond (t:=_) rfl (fun hf=>?_) (fun hf=>?_)
  ·(repeat ((refine gO rfl ?_)))
   simp only [Tryz.results76,go_sem,↓reduceIte,reduceCtorEq,nA,nB,nC,nD,nE,nF]
   simp only [decide_eq_true_eq] at hf
   exact ⟨_,_,Weak.refl _,Hp.le.refl _,rfl,_,out,hR,hO,hfr0,fun _=>⟨rfl,rfl⟩,fun h=>by omega,fun h=>by omega⟩
  simp only [decide_eq_false_iff_not] at hf
  have hpn:0≤p∧p≤5000:=by have:=hB.1;omega
  have hcn:∀ x∈cs,0≤x∧x≤1000000:=fun x hx=>by have:=hB.2.1 x hx;omega
  (repeat ((refine gQ rfl ?_)))
  refine awp_seq ?_
  refine awp_join (rl false [0,2,114]) 0 (fun s=>PassJp d kind item long many kids shares i c0 az p cs ks h o k out s) ?_ ?_
  ·rcases (show kind=1∨kind=2∨kind=3∨kind=4∨kind=5 by omega) with rfl|rfl|rfl|rfl|rfl
   ·(repeat (first|refine gO rfl ?_|((((with_reducible refine yS ?_);refine awp_keep zK30 100 (kS ?_)))<;>((try with_reducible intro K1 hK1);simp only [go_sem,↓reduceIte,reduceCtorEq,nA,nB,nC,nD,nE,nF,hH0,nG,nH,nI]<;>and_intros<;>(apply hK1;clear hK1 K1)))))
    refine awp_cond (t:=_) rfl (fun _=>?_) (fun h1=>by cases h1)
    (repeat (first|refine gO rfl ?_|((first|refine gR ?_|(with_reducible refine wM ?_ ?_)|((with_reducible refine xR ?_);refine awp_keep zK30 100 (uE 7 zM33 zP1LE zP1LP 116 rfl (by kernel_rfl) ?_)))<;>((try with_reducible intro K1 hK1);simp only [go_sem,↓reduceIte,reduceCtorEq,nA,nB,nC,nD,nE,nF,hH0,hO1,hO2,nG,nH,nI]<;>and_intros<;>first|(apply hK1;clear hK1 K1)|(intros;first|omega|decide)))))
    have hix:idxL 1 p many kids.length (nextF shares p cs)=[]:=by simp [idxL]
    refine ⟨{ H:=upd h.H o (some (.cells [.row 2 (out.map encStep++[[.v (.string item),.v (.int .i64 long)]]) (some k),.v (.int .i64 5000)])),T:=upd h.T k (some (.tail (out.length+1))) },cs,ks,out++[(item,long)],⟨hR.frame (fun x hx=>upd_other _ _ (fun e=>by subst e;exact ho hx)) (fun x hx=>upd_other _ _ (fun e=>by subst e;exact hkt hx)),⟨?_,?_⟩,⟨fun x _ hx=>upd_other _ _ hx,fun x _ hx=>upd_other _ _ hx⟩,?_⟩,rfl⟩
    ·rw [show (out++[(item,long)]).map encStep=out.map encStep++[[.v (.string item),.v (.int .i64 long)]] by simp [encStep]]
     exact upd_same _ _ _
    ·rw [show (out++[(item,long)]).length=out.length+1 by simp]
     exact upd_same _ _ _
    ·rw [hix]
     have e7:(out++[(item,long)]).length=out.length+1:=by simp
     refine ⟨⟨⟨l2,l4⟩,fun x hx=>?_,fun j hj=>(hB.2.2 j hj).mono (by omega)⟩,by omega,fun _=>⟨rfl,by simp⟩,fun h=>?_⟩
     ·have:=hB.2.1 x hx;omega
     ·simp at h;omega
   ·have hs0:St2 d (.mk 2 item long many kids shares) kids (.mk i c0 az) p h o k out ((cs,ks),[]) h cs ks out:=⟨hR,hO,hfr0,⟨⟨l2,l4⟩,hB.2.1,hB.2.2⟩,by omega,fun _=>⟨rfl,by simp⟩,fun h=>by simp only [List.length_nil] at h;omega⟩
    obtain ⟨⟨tk,hC0⟩,hz0⟩:=hs0.cells (v3 (by omega))
    have hKe:=hH0.symm.trans hC0
    simp only [Option.some.injEq,AO.cells.injEq,List.cons.injEq,true_and,and_true] at hKe
    subst hKe
    (repeat (first|refine gO rfl ?_|((((with_reducible refine yS ?_);refine awp_keep zK30 100 (kS ?_)))<;>((try with_reducible intro K1 hK1);simp only [go_sem,↓reduceIte,reduceCtorEq,nA,nB,nC,nD,nE,nF,hH0,nG,nH,nI]<;>and_intros<;>(apply hK1;clear hK1 K1)))))
    refine awp_cond (t:=_) rfl (fun h1=>by cases h1) (fun _=>?_)
    (repeat (first|refine gO rfl ?_|((((with_reducible refine yS ?_);refine awp_keep zK30 100 (kS ?_)))<;>((try with_reducible intro K1 hK1);simp only [go_sem,↓reduceIte,reduceCtorEq,nA,nB,nC,nD,nE,nF,hH0,nG,nH,nI]<;>and_intros<;>(apply hK1;clear hK1 K1)))))
    refine awp_cond (t:=_) rfl (fun _=>?_) (fun h1=>by cases h1)
    (repeat (first|refine gO rfl ?_|((((with_reducible refine yS ?_);refine awp_keep zK30 100 (kS ?_)))<;>((try with_reducible intro K1 hK1);simp only [go_sem,↓reduceIte,reduceCtorEq,nA,nB,nC,nD,nE,nF,hH0,nG,nH,nI]<;>and_intros<;>(apply hK1;clear hK1 K1)))))
    have hix:idxL 2 p many kids.length (nextF shares p cs)=List.range kids.length:=by simp [idxL]
    refine awp_loopC (rl false [0,2,55,3,56]) 0 (fun g s=>∃ (j:Nat) (h1:Hp) (cs':List Int) (ks':List PS) (out':List (ByteArray × Int)),g+j=kids.length∧St2 d (.mk 2 item long many kids shares) kids (.mk i c0 az) p h o k out ((List.range j).foldl (stepU (passU d) kids) ((cs,ks),[])) h1 cs' ks' out' ∧
     s=⟨((.ptr i 0) :: (.ptr o 0) :: (jnk 55 ((.row 1 (az.map fun a=>[.ptr a.id 0]) tk) :: (.v (.int .i64 kids.length)) :: (.v (.int .i64 j)) :: (jnk 56 [])))),[],h1⟩) kids.length ⟨0,h,cs,ks,out,by omega,hs0,by rw [← hz0];rfl⟩ ?_
    rintro g _ ⟨j,h1,cs',ks',out',hj,hs,rfl⟩
    (repeat (first|refine gO rfl ?_|((((with_reducible refine yS ?_);refine awp_keep zK30 100 (kS ?_)))<;>((try with_reducible intro K1 hK1);simp only [go_sem,↓reduceIte,reduceCtorEq,nA,nB,nC,nD,nE,nF,nG,nH,nI]<;>and_intros<;>(apply hK1;clear hK1 K1)))))
    refine awp_cond (t:=_) rfl (fun h2=>?_) (fun h2=>?_)
    ·simp only [decide_eq_true_eq] at h2
     have hx:j < kids.length:=by omega
     have hgz:(az.map fun a:AT=>[AV.ptr a.id 0]).getD j []=[.ptr (az.getD j default).id 0]:=getD_enc (fun a:AT=>[AV.ptr a.id 0]) az j default (by omega)
     obtain ⟨a1,a2,a3,a4,a5,a6⟩:=hs.ask hS ho hx
     (repeat (first|refine gO rfl ?_|((first|((with_reducible refine yS ?_);refine awp_keep zK30 100 (kS ?_))|((with_reducible refine yR ?_);refine awp_keep zK30 100 (kR ?_)))<;>((try with_reducible intro K1 hK1);simp only [go_sem,↓reduceIte,reduceCtorEq,nA,nB,nC,nD,nE,nF,Int.toNat_natCast,hgz,hz0,nG,nH,nI]<;>and_intros<;>first|(apply hK1;clear hK1 K1)|(intros;(omega))|skip))))
     refine (g_passP d _ _ _ h1 o k out' (v8 _ (getD_mem' kids j default hx)) a1 a2 a3 a4 a5 a6).mono ?_
     intro r h3 hres
     obtain ⟨cs2,ks2,out2,hs2⟩:=hs.next (by omega) hS ho hx (v8 _ (getD_mem' kids j default hx)) hres
     obtain ⟨rfl,_⟩:=hres
     refine hK1 _ ?_;clear hK1 K1
     (repeat (first|refine gO rfl ?_|((((with_reducible refine yR ?_);refine awp_keep zK30 100 (kR ?_)))<;>((try with_reducible intro K1 hK1);simp only [go_sem,↓reduceIte,reduceCtorEq,nA,nB,nC,nD,nE,nF,nG,nH,nI]<;>and_intros<;>first|(apply hK1;clear hK1 K1)|(intros;(omega))))))
     exact ⟨g - 1,by omega,j+1,h3,cs2,ks2,out2,by omega,by rw [List.range_succ,List.foldl_append];exact hs2,rfl⟩
    ·simp only [decide_eq_false_iff_not] at h2
     have hjk:j=kids.length:=by omega
     subst hjk
     (repeat ((refine gO rfl ?_)))
     exact ⟨h1,cs',ks',out',by rw [hix];exact hs,rfl⟩
   ·have hs0:St2 d (.mk 3 item long many kids shares) kids (.mk i c0 az) p h o k out ((cs,ks),[]) h cs ks out:=⟨hR,hO,hfr0,⟨⟨l2,l4⟩,hB.2.1,hB.2.2⟩,by omega,fun _=>⟨rfl,by simp⟩,fun h=>by simp only [List.length_nil] at h;omega⟩
    obtain ⟨⟨tk,hC0⟩,hz0⟩:=hs0.cells (v3 (by omega))
    have hKe:=hH0.symm.trans hC0
    simp only [Option.some.injEq,AO.cells.injEq,List.cons.injEq,true_and,and_true] at hKe
    subst hKe
    (repeat (first|refine gO rfl ?_|((((with_reducible refine yS ?_);refine awp_keep zK30 100 (kS ?_)))<;>((try with_reducible intro K1 hK1);simp only [go_sem,↓reduceIte,reduceCtorEq,nA,nB,nC,nD,nE,nF,hH0,nG,nH,nI]<;>and_intros<;>(apply hK1;clear hK1 K1)))))
    refine awp_cond (t:=_) rfl (fun h1=>by cases h1) (fun _=>?_)
    (repeat (first|refine gO rfl ?_|((((with_reducible refine yS ?_);refine awp_keep zK30 100 (kS ?_)))<;>((try with_reducible intro K1 hK1);simp only [go_sem,↓reduceIte,reduceCtorEq,nA,nB,nC,nD,nE,nF,hH0,nG,nH,nI]<;>and_intros<;>(apply hK1;clear hK1 K1)))))
    refine awp_cond (t:=_) rfl (fun h1=>by cases h1) (fun _=>?_)
    (repeat (first|refine gO rfl ?_|((((with_reducible refine yS ?_);refine awp_keep zK30 100 (kS ?_)))<;>((try with_reducible intro K1 hK1);simp only [go_sem,↓reduceIte,reduceCtorEq,nA,nB,nC,nD,nE,nF,hH0,nG,nH,nI]<;>and_intros<;>(apply hK1;clear hK1 K1)))))
    refine awp_cond (t:=_) rfl (fun _=>?_) (fun h1=>by cases h1)
    have hnk:0 < kids.length:=List.length_pos_iff.2 (v3 (by omega))
    have htm:=Int.tmod_lt_of_pos p (show (0:Int) < kids.length by omega)
    have htn:=Int.tmod_nonneg (kids.length:Int) hpn.1
    have hix:idxL 3 p many kids.length (nextF shares p cs)=[(p.tmod kids.length).toNat]:=by simp [idxL]
    have hx:(p.tmod kids.length).toNat < kids.length:=by omega
    have hgz:(az.map fun a:AT=>[AV.ptr a.id 0]).getD (p.tmod kids.length).toNat []=[.ptr (az.getD (p.tmod kids.length).toNat default).id 0]:=getD_enc (fun a:AT=>[AV.ptr a.id 0]) az _ default (by omega)
    obtain ⟨a1,a2,a3,a4,a5,a6⟩:=hs0.ask hS ho hx
    (repeat (((first|refine gR ?_|((with_reducible refine xR ?_);refine awp_keep zK30 100 (uE 15 zM33 zP1ME zP1MP 116 rfl (by kernel_rfl) ?_)))<;>((try with_reducible intro K1 hK1);simp only [go_sem,↓reduceIte,reduceCtorEq,nA,nB,nC,nD,nE,nF,hH0,hz0,hgz,nG,nH,nI]<;>and_intros<;>first|(apply hK1;clear hK1 K1)|(intros;(omega))|skip))))
    refine (g_passP d _ _ _ h o k out (v8 _ (getD_mem' kids _ default hx)) a1 a2 a3 a4 a5 a6).mono ?_
    intro r h3 hres
    obtain ⟨cs2,ks2,out2,hs2⟩:=hs0.next (by omega) hS ho hx (v8 _ (getD_mem' kids _ default hx)) hres
    obtain ⟨rfl,_⟩:=hres
    refine hK1 _ ?_;clear hK1 K1
    (repeat (first|refine gO rfl ?_|(((with_reducible refine wM ?_ ?_))<;>((try with_reducible intro K1 hK1);simp only [go_sem,↓reduceIte,reduceCtorEq,nA,nB,nC,nD,nE,nF,nG,nH,nI]<;>and_intros<;>(apply hK1;clear hK1 K1)))))
    exact ⟨h3,cs2,ks2,out2,by rw [hix];exact hs2,rfl⟩
   ·have hs0:St2 d (.mk 4 item long many kids shares) kids (.mk i c0 az) p h o k out ((cs,ks),[]) h cs ks out:=⟨hR,hO,hfr0,⟨⟨l2,l4⟩,hB.2.1,hB.2.2⟩,by omega,fun _=>⟨rfl,by simp⟩,fun h=>by simp only [List.length_nil] at h;omega⟩
    obtain ⟨⟨tk,hC0⟩,hz0⟩:=hs0.cells (v3 (by omega))
    have hKe:=hH0.symm.trans hC0
    simp only [Option.some.injEq,AO.cells.injEq,List.cons.injEq,true_and,and_true] at hKe
    subst hKe
    (repeat (first|refine gO rfl ?_|((((with_reducible refine yS ?_);refine awp_keep zK30 100 (kS ?_)))<;>((try with_reducible intro K1 hK1);simp only [go_sem,↓reduceIte,reduceCtorEq,nA,nB,nC,nD,nE,nF,hH0,nG,nH,nI]<;>and_intros<;>(apply hK1;clear hK1 K1)))))
    refine awp_cond (t:=_) rfl (fun h1=>by cases h1) (fun _=>?_)
    (repeat (first|refine gO rfl ?_|((((with_reducible refine yS ?_);refine awp_keep zK30 100 (kS ?_)))<;>((try with_reducible intro K1 hK1);simp only [go_sem,↓reduceIte,reduceCtorEq,nA,nB,nC,nD,nE,nF,hH0,nG,nH,nI]<;>and_intros<;>(apply hK1;clear hK1 K1)))))
    refine awp_cond (t:=_) rfl (fun h1=>by cases h1) (fun _=>?_)
    (repeat (first|refine gO rfl ?_|((((with_reducible refine yS ?_);refine awp_keep zK30 100 (kS ?_)))<;>((try with_reducible intro K1 hK1);simp only [go_sem,↓reduceIte,reduceCtorEq,nA,nB,nC,nD,nE,nF,hH0,nG,nH,nI]<;>and_intros<;>(apply hK1;clear hK1 K1)))))
    refine awp_cond (t:=_) rfl (fun h1=>by cases h1) (fun _=>?_)
    (repeat (first|refine gO rfl ?_|((((with_reducible refine yS ?_);refine awp_keep zK30 100 (kS ?_)))<;>((try with_reducible intro K1 hK1);simp only [go_sem,↓reduceIte,reduceCtorEq,nA,nB,nC,nD,nE,nF,hH0,nG,nH,nI]<;>and_intros<;>(apply hK1;clear hK1 K1)))))
    refine awp_cond (t:=_) rfl (fun _=>?_) (fun h1=>by cases h1)
    have hsl:=v5 rfl
    have hnk:0 < kids.length:=List.length_pos_iff.2 (v3 (by omega))
    have hx:nextF shares p cs < kids.length:=by rw [← hsl];exact bestTo_lt _ _ (by omega)
    have hix:idxL 4 p many kids.length (nextF shares p cs)=[nextF shares p cs]:=by simp [idxL]
    have hT0:h.T c0=some (.cont 1 (cs.map encI)):=hT
    have hH4:=hH0
    rw [← hsl] at hH4
    (repeat (((((with_reducible refine yS ?_);refine awp_keep zK30 100 (kS ?_)))<;>((try with_reducible intro K1 hK1);simp only [go_sem,↓reduceIte,reduceCtorEq,nA,nB,nC,nD,nE,nF,nG,nH,nI]<;>and_intros))))
    refine (g_behind45 4 item long many (.row 6 (kids.map encL) none) shares (.row 1 (az.map fun a=>[.ptr a.id 0]) tk) p i c0 cs h hH4 hT0 (by omega) (by omega) v6 (by omega) hcn).mono ?_;rintro _ hz ⟨rfl,hh⟩;apply hK1;clear hK1 K1;rw [hh];clear hh hz
    have hcl:cs.length=kids.length:=l2
    have hgc:(cs.map encI).getD (nextF shares p cs) []=encI (cs.getD (nextF shares p cs) 0):=getD_enc encI cs _ 0 (by omega)
    have hcb:=hcn _ (getD_mem' cs (nextF shares p cs) 0 (by omega))
    have hgz:(az.map fun a:AT=>[AV.ptr a.id 0]).getD (nextF shares p cs) []=[.ptr (az.getD (nextF shares p cs) default).id 0]:=getD_enc (fun a:AT=>[AV.ptr a.id 0]) az _ default (by omega)
    generalize hxe:nextF shares p cs=x at *
    (repeat (first|refine gO rfl ?_|((first|((with_reducible refine yS ?_);refine awp_keep zK30 100 (kS ?_))|((with_reducible refine yR ?_);refine awp_keep zK30 100 (kR ?_))|refine gR ?_)<;>((try with_reducible intro K1 hK1);simp only [go_sem,↓reduceIte,reduceCtorEq,nA,nB,nC,nD,nE,nF,hH0,hT0,hcl,hgc,hz0,hgz,Int.toNat_natCast,encI,nG,nH,nI]<;>and_intros<;>first|(apply hK1;clear hK1 K1)|(intros;(omega))|skip))))
    have hck:c0≠k:=fun e=>hkt (by rw [toksT_eq,e];simp)
    have hR4:=hR.count hS (cs':=cs.set x (cs.getD x 0+1)) (by simp) (by simp [XP];omega)
    rw [show XP.cf 4 (cs.set x (cs.getD x 0+1))=cs.set x (cs.getD x 0+1) from rfl,List.map_set] at hR4
    have hO4:OutAt { h with T:=upd h.T c0 (some (.cont 1 ((cs.map encI).set x (encI (cs.getD x 0+1))))) } o k oEx out:=⟨hO.1,(upd_other _ _ (fun e=>hck e.symm)).trans hO.2⟩
    have hk4:=hR4.2.2.2 x hx
    have hF4:FrP (.mk i c0 az) o k h { h with T:=upd h.T c0 (some (.cont 1 ((cs.map encI).set x (encI (cs.getD x 0+1))))) }:=⟨fun _ _ _=>rfl,fun y hy _=>upd_other _ _ (fun e=>hy (by rw [toksT_eq,e];simp))⟩
    refine (g_passP d _ _ _ _ o k out (v8 _ (getD_mem' kids x default hx)) hk4 (hS x (by omega)).1.2.2 (hB.2.2 x hx) hO4 (fun hh=>ho (idsT_kid (by omega) hh)) hout).mono ?_
    rintro r h3 ⟨rfl,s',out2,r1,r2,r3,r4⟩
    refine hK1 _ ?_;clear hK1 K1
    (repeat ((refine gO rfl ?_)))
    have hst:=hs0.2.2.2.step hx (v8 _ (getD_mem' kids x default hx)) hk4.fits r4
    rw [if_pos (by simp only [List.length_nil];omega)] at hst
    exact ⟨h3,_,_,out2,⟨hR4.kid hS ho (hR4.tokNe hO4.2) hx r1 r3,r2,hF4.trans (r3.kid (by omega)),by rw [hxe,hix];exact hst⟩,rfl⟩
   ·have hs0:St2 d (.mk 5 item long many kids shares) kids (.mk i c0 az) p h o k out ((cs,ks),[]) h cs ks out:=⟨hR,hO,hfr0,⟨⟨l2,l4⟩,hB.2.1,hB.2.2⟩,by omega,fun _=>⟨rfl,by simp⟩,fun h=>by simp only [List.length_nil] at h;omega⟩
    obtain ⟨⟨tk,hC0⟩,hz0⟩:=hs0.cells (v3 (by omega))
    have hKe:=hH0.symm.trans hC0
    simp only [Option.some.injEq,AO.cells.injEq,List.cons.injEq,true_and,and_true] at hKe
    subst hKe
    (repeat (first|refine gO rfl ?_|((((with_reducible refine yS ?_);refine awp_keep zK30 100 (kS ?_)))<;>((try with_reducible intro K1 hK1);simp only [go_sem,↓reduceIte,reduceCtorEq,nA,nB,nC,nD,nE,nF,hH0,nG,nH,nI]<;>and_intros<;>(apply hK1;clear hK1 K1)))))
    refine awp_cond (t:=_) rfl (fun h1=>by cases h1) (fun _=>?_)
    (repeat (first|refine gO rfl ?_|((((with_reducible refine yS ?_);refine awp_keep zK30 100 (kS ?_)))<;>((try with_reducible intro K1 hK1);simp only [go_sem,↓reduceIte,reduceCtorEq,nA,nB,nC,nD,nE,nF,hH0,nG,nH,nI]<;>and_intros<;>(apply hK1;clear hK1 K1)))))
    refine awp_cond (t:=_) rfl (fun h1=>by cases h1) (fun _=>?_)
    (repeat (first|refine gO rfl ?_|((((with_reducible refine yS ?_);refine awp_keep zK30 100 (kS ?_)))<;>((try with_reducible intro K1 hK1);simp only [go_sem,↓reduceIte,reduceCtorEq,nA,nB,nC,nD,nE,nF,hH0,nG,nH,nI]<;>and_intros<;>(apply hK1;clear hK1 K1)))))
    refine awp_cond (t:=_) rfl (fun h1=>by cases h1) (fun _=>?_)
    (repeat (first|refine gO rfl ?_|((((with_reducible refine yS ?_);refine awp_keep zK30 100 (kS ?_)))<;>((try with_reducible intro K1 hK1);simp only [go_sem,↓reduceIte,reduceCtorEq,nA,nB,nC,nD,nE,nF,hH0,nG,nH,nI]<;>and_intros<;>(apply hK1;clear hK1 K1)))))
    refine awp_cond (t:=_) rfl (fun h1=>by cases h1) (fun _=>?_)
    have hm5:=v4 rfl
    have hx:0 < kids.length:=by omega
    (repeat (first|refine gO rfl ?_|((((with_reducible refine yS ?_);refine awp_keep zK30 100 (kS ?_)))<;>((try with_reducible intro K1 hK1);simp only [go_sem,↓reduceIte,reduceCtorEq,nA,nB,nC,nD,nE,nF,hH0,nG,nH,nI]<;>and_intros<;>(apply hK1;clear hK1 K1)))))
    have hix:idxL 5 p many kids.length (nextF shares p cs)=List.replicate many.toNat 0:=by simp [idxL]
    refine awp_loopC (rl false [0,2,16,2,96]) 0 (fun g s=>∃ (j:Nat) (h1:Hp) (cs':List Int) (ks':List PS) (out':List (ByteArray × Int)),g+j=many.toNat∧St2 d (.mk 5 item long many kids shares) kids (.mk i c0 az) p h o k out ((List.replicate j 0).foldl (stepU (passU d) kids) ((cs,ks),[])) h1 cs' ks' out' ∧
     s=⟨((.ptr i 0) :: (.ptr o 0) :: (jnk 16 ((.v (.int .i64 many)) :: (.v (.int .i64 j)) :: (jnk 96 [])))),[],h1⟩) many.toNat ⟨0,h,cs,ks,out,by omega,hs0,rfl⟩ ?_
    rintro g _ ⟨j,h1,cs',ks',out',hj,hs,rfl⟩
    (repeat (first|refine gO rfl ?_|((((with_reducible refine yS ?_);refine awp_keep zK30 100 (kS ?_)))<;>((try with_reducible intro K1 hK1);simp only [go_sem,↓reduceIte,reduceCtorEq,nA,nB,nC,nD,nE,nF,nG,nH,nI]<;>and_intros<;>(apply hK1;clear hK1 K1)))))
    refine awp_cond (t:=_) rfl (fun h2=>?_) (fun h2=>?_)
    ·simp only [decide_eq_true_eq] at h2
     have hgz:(az.map fun a:AT=>[AV.ptr a.id 0]).getD 0 []=[.ptr (az.getD 0 default).id 0]:=getD_enc (fun a:AT=>[AV.ptr a.id 0]) az 0 default (by omega)
     obtain ⟨a1,a2,a3,a4,a5,a6⟩:=hs.ask hS ho hx
     obtain ⟨⟨tk1,hC1⟩,_⟩:=hs.cells (v3 (by omega))
     have hgz0:∀ tz,(az.map fun a:AT=>[AV.ptr a.id 0]).getD (Int.toNat 0) tz=(az.map fun a:AT=>[AV.ptr a.id 0]).getD 0 tz:=fun _=>rfl
     (repeat (first|refine gO rfl ?_|((((with_reducible refine yR ?_);refine awp_keep zK30 100 (kR ?_)))<;>((try with_reducible intro K1 hK1);simp only [go_sem,↓reduceIte,reduceCtorEq,nA,nB,nC,nD,nE,nF,hC1,hgz0,hgz,hz0,nG,nH,nI]<;>and_intros<;>first|(intros;(omega))|skip))))
     refine (g_passP d _ _ _ h1 o k out' (v8 _ (getD_mem' kids 0 default hx)) a1 a2 a3 a4 a5 a6).mono ?_
     intro r h3 hres
     obtain ⟨cs2,ks2,out2,hs2⟩:=hs.next (by omega) hS ho hx (v8 _ (getD_mem' kids 0 default hx)) hres
     obtain ⟨rfl,_⟩:=hres
     refine hK1 _ ?_;clear hK1 K1
     (repeat (first|refine gO rfl ?_|((((with_reducible refine yR ?_);refine awp_keep zK30 100 (kR ?_)))<;>((try with_reducible intro K1 hK1);simp only [go_sem,↓reduceIte,reduceCtorEq,nA,nB,nC,nD,nE,nF,nG,nH,nI]<;>and_intros<;>first|(apply hK1;clear hK1 K1)|(intros;(omega))))))
     exact ⟨g - 1,by omega,j+1,h3,cs2,ks2,out2,by omega,by rw [List.replicate_succ',List.foldl_append];exact hs2,rfl⟩
    ·simp only [decide_eq_false_iff_not] at h2
     have hjk:j=many.toNat:=by omega
     subst hjk
     (repeat ((refine gO rfl ?_)))
     exact ⟨h1,cs',ks',out',by rw [hix];exact hs,rfl⟩
  ·rintro _ ⟨h1,cs',ks',out',⟨g1,g2,g3,g4⟩,rfl⟩
   obtain ⟨⟨K1',hH1,hK1'⟩,hT1,⟨m1,m2,m3,m4⟩,hk1⟩:=id g1
   have hH10:h1.H i=some (.cells [.v (.int .i64 kind),.v (.string item),.v (.int .i64 long),.v (.int .i64 many),.row 6 (kids.map encL) none,.row 1 (shares.map encI) none,K1',.v (.int .i64 p),.arr 1 c0 kids.length,.v (.int .i64 shares.sum)]):=hH1
   have hoi:o≠i:=fun e=>ho (by rw [idsT_eq,e];simp)
   have hPS:=passU_succ d kind item long many kids shares p cs ks
   have hpo:=passU_ok (d+1) _ _ out.length hv hfit (by omega) hB
   generalize (idxL kind p many kids.length (nextF shares p cs)).foldl (stepU (passU d) kids) ((cs,ks),if kind=1 then [(item,long)] else [])=acc at *
   (repeat (first|refine gO rfl ?_|((((with_reducible refine yR ?_);refine awp_keep zK30 100 (kR ?_)))<;>((try with_reducible intro K1 hK1);simp only [go_sem,↓reduceIte,reduceCtorEq,nA,nB,nC,nD,nE,nF,hH10,nG,nH,nI]<;>and_intros<;>first|(apply hK1;clear hK1 K1)|(intros;(omega))))))
   simp only [retQ,Tryz.results76,resV,resL]
   refine ⟨_,_,Weak.refl _,Hp.le.refl _,rfl,.mk (p+1) cs' ks',out',g1.hadOne hS hK1',⟨(upd_other _ _ hoi).trans g2.1,g2.2⟩,g3.trans ⟨fun y hy _=>upd_other _ _ (fun e=>hy (by rw [idsT_eq,e];simp)),fun _ _ _=>rfl⟩,fun h=>by omega,fun _ hle=>?_,fun _ hlt=>?_⟩
   ·rw [hPS] at hle ⊢
    obtain ⟨e1,e2⟩:=g4.2.2.1 hle
    have e3:acc.1.1=cs':=by rw [← e1]
    have e4:acc.1.2=ks':=by rw [← e1]
    exact ⟨by rw [e3,e4],e2⟩
   ·rw [hPS] at hlt
    have e5:=g4.2.2.2 hlt
    refine ⟨e5,⟨by omega,?_,?_⟩⟩
    ·have:=g4.1.2.1;rw [e5] at this;exact this
    ·have:=g4.1.2.2;rw [e5] at this;exact this
noncomputable def roundC (d:Nat) (t:LT):List AV:=[.v (.int .i64 (roundN d t:Nat)),.row 2 ((roundS d t).map encStep) none,.v (.int .i64 ((roundS d t).map (·.2)).sum)]
theorem roundS_some {d:Nat} {t:LT} {N:Nat} (h:RoundIs d t N):roundS d t=(passesU d t N).2∧roundE d t=0∧roundN d t=N:=by
 have e:=roundN_some h
 have h1:=h.1.1
 exact ⟨by rw [roundS,if_neg (by omega),e],by rw [roundE,if_neg (by omega)],e⟩
theorem roundS_none {d:Nat} {t:LT} (e:roundN d t=0):roundS d t=[]∧roundE d t=2:=⟨by rw [roundS,if_pos e],by rw [roundE,if_pos e]⟩
theorem roundC_none {d:Nat} {t:LT} (e:roundN d t=0):roundC d t=[.v (.int .i64 0),.row 2 [] none,.v (.int .i64 0)]:=by
 rw [roundC,e,(roundS_none e).1];rfl
theorem passesU_len (d:Nat) (t:LT) (j:Nat):(passesU d t (j+1)).2.length=(passesU d t j).2.length+(passU d t (passesU d t j).1).2.length:=by simp only [passesU,List.length_append]
theorem sum_bdS (xs:List (ByteArray × Int)) (h:∀ x∈xs,1≤x.2∧x.2≤3600000):0≤(xs.map (·.2)).sum∧(xs.map (·.2)).sum≤xs.length * 3600000:=by
 induction xs with
 | nil=>simp
 | cons y l ih=>have:=h y (by simp);have:=ih fun z hz=>h z (by simp [hz]);simp only [List.map_cons,List.sum_cons,List.length_cons];omega
theorem g_roundP (d:Nat) (t:LT) (h:Hp) (hb:KC d t) (hv:VL d t) (hil:IL d t):ACalls Tryz.prog 79 [.agg (encL t)] h (fun r _=>r=.tup [.agg (roundC d t),.v (.int .i64 (roundE d t))]):=by
 have hlen:=encL_len t
 have htk:List.take 6 (encL t)=encL t:=List.take_of_length_le (Nat.le_of_eq hlen)
 have hdk:List.drop 6 (encL t)=[]:=List.drop_of_length_le (Nat.le_of_eq hlen)
 refine gE Tryz.func79 rfl (by kernel_rfl) 56 rfl fun c=>?_
 (repeat (first|refine gQ rfl ?_|(refine gM zM35 fun K1 hK1=>?_;simp only [go_sem,↓reduceIte,reduceCtorEq,nA,nB,nC,nD,nE,nF,hlen,htk,hdk]<;>and_intros<;>first|(apply hK1;clear hK1 K1)|skip)))
 refine (g_newPart d t h hb).mono ?_
 rintro _ h1 ⟨a,rfl,hR,hS,hn1,hn2,hk1,hk2⟩
 refine hK1 _ ?_;clear hK1 K1
 first|refine gO rfl ?_|(refine gM zM35 fun K1 hK1=>?_;simp only [go_sem,↓reduceIte,reduceCtorEq,nA,nB,nC,nD,nE,nF]<;>and_intros<;>first|(apply hK1;clear hK1 K1)|(intros;first|omega|decide|(simp_all<;>omega))|skip)
 intro o ho
 refine hK1 _ ?_;clear hK1 K1
 refine vRem_nil ?_
 refine awp_ownPtr (cs:=[.v (.slice none 0 0),.v (.int .i64 5000)]) o 0 2 (upd_same _ _ _) rfl (fun k hk=>?_)
 simp only [List.set_cons_zero,upd_upd]
 replace hk:h1.T k=none:=hk
 replace ho:h1.H o=none:=ho
 have hoa:o ∉ idsT a:=fun hx=>hR.ne.1 o hx ho
 have hka:k ∉ toksT a:=fun hx=>hR.ne.2 k hx hk
 have hok:=passesU_ok d t hv
 (repeat (first|refine gQ rfl ?_|(refine gM zM35 fun K1 hK1=>?_;simp only [go_sem,↓reduceIte,reduceCtorEq,nA,nB,nC,nD,nE,nF]<;>and_intros<;>(apply hK1;clear hK1 K1))))
 refine awp_seq ?_
 refine awp_block ?_
 refine awp_loopC (rl false [2,1,1,3,50]) 2 (fun g s=>∃ (j:Nat) (h2:Hp),g+j=5001∧(passesU d t j).2.length≤5000∧(∀ n,1≤n→n < j→homeF d t (passesU d t n).1=false)∧RAt XP h2 d t a (passesU d t j).1∧OutAt h2 o k oEx (passesU d t j).2 ∧
  s=⟨(AV.junk :: AV.junk :: ((.loc 0 0) :: AV.junk :: ((.ptr a.id 0) :: (.ptr o 0) :: (.loc 1 0) :: (jnk 50 [])))),[[.v (.int .i64 0),.v (.slice none 0 0),.v (.int .i64 0)],[.v (.int .i64 j),.v (.slice none 0 0),.v (.int .i64 0)]],h2⟩) 5001 ⟨0,_,by omega,by simp [passesU],fun n h1 h2=>by omega,hR.frame (fun i hi=>upd_other _ _ (fun e=>hoa (by subst e;exact hi))) (fun c hc=>upd_other _ _ (fun e=>hka (by subst e;exact hc))),⟨upd_same _ _ _,upd_same _ _ _⟩,rfl⟩ ?_
 rintro g _ ⟨j,h2,hj,hlj,hnh,hR2,hO2,rfl⟩
 have hj5:j≤5000:=by have:=(hok j).2.2;omega
 skip
 refine awp_seq ?_
 refine awp_join (rl false [2,1,1,3,50]) 2 (fun s=>(∀ n,1≤n→n≤j→homeF d t (passesU d t n).1=false)∧s=⟨(AV.junk :: AV.junk :: ((.loc 0 0) :: AV.junk :: ((.ptr a.id 0) :: (.ptr o 0) :: (.loc 1 0) :: (jnk 50 [])))),[[.v (.int .i64 0),.v (.slice none 0 0),.v (.int .i64 0)],[.v (.int .i64 j),.v (.slice none 0 0),.v (.int .i64 0)]],h2⟩) ?_ ?_
 ·by_cases hj0:j=0
  ·have e0:((j:Int) == 0)=true:=by simp;omega
   (repeat ((refine gM zM35 fun K1 hK1=>?_;simp only [go_sem,↓reduceIte,reduceCtorEq,nA,nB,nC,nD,nE,nF,e0]<;>and_intros<;>first|(apply hK1;clear hK1 K1)|skip)))
   refine ⟨.v (.bool true),rfl,hK1 _ ?_⟩;clear hK1 K1
   (repeat ((refine gO rfl ?_)))
   refine awp_cond (t:=_) rfl (fun _=>?_) (fun h=>by cases h)
   (repeat ((refine gO rfl ?_)))
   exact ⟨fun n h1 h2=>by omega,rfl⟩
  ·have e0:((j:Int) == 0)=false:=by simp;omega
   (repeat ((refine gM zM35 fun K1 hK1=>?_;simp only [go_sem,↓reduceIte,reduceCtorEq,nA,nB,nC,nD,nE,nF,e0]<;>and_intros<;>first|(intros;(simp_all<;>omega))|skip)))
   refine (g_beginsG d t a _ h2 hv hR2 ((hok j).1.mono (by omega))).mono ?_;rintro _ hz ⟨rfl,hh⟩;refine ⟨rfl,hK1 _ ?_⟩;clear hK1 K1;rw [hh];clear hh hz
   (repeat (first|refine gO rfl ?_|(refine gM zM35 fun K1 hK1=>?_;simp only [go_sem,↓reduceIte,reduceCtorEq,nA,nB,nC,nD,nE,nF,e0]<;>and_intros<;>(apply hK1;clear hK1 K1))))
   cases eh:homeF d t (passesU d t j).1 with
   | true =>
    have hri:RoundIs d t j:=⟨by omega,hlj,eh,hnh⟩
    obtain ⟨r1,r2,r3⟩:=roundS_some hri
    have hlong:=passes_long hil j
    have hO20:h2.H o=some (.cells [.row 2 ((passesU d t j).2.map encStep) (some k),.v (.int .i64 5000)]):=hO2.1
    have hrc:roundC d t=[.v (.int .i64 j),.row 2 ((passesU d t j).2.map encStep) none,.v (.int .i64 ((passesU d t j).2.map (·.2)).sum)]:=by rw [roundC,r1,r3]
    rw [hrc,r2]
    refine awp_cond (t:=_) rfl (fun h=>by cases h) (fun _=>?_)
    generalize (passesU d t j).2=xs at *
    (repeat (first|refine gQ rfl ?_|(refine gM zM35 fun K1 hK1=>?_;simp only [go_sem,↓reduceIte,reduceCtorEq,nA,nB,nC,nD,nE,nF,hO20]<;>and_intros<;>(apply hK1;clear hK1 K1))))
    refine awp_seq ?_
    (repeat (first|refine gO rfl ?_|(refine gM zM35 fun K1 hK1=>?_;simp only [go_sem,↓reduceIte,reduceCtorEq,nA,nB,nC,nD,nE,nF]<;>and_intros<;>(apply hK1;clear hK1 K1))))
    refine awp_loopC (rl false [2,1,3,1,36,3,11]) 2 (fun g s=>∃ m:Nat,g+m=xs.length∧s=⟨(AV.junk :: AV.junk :: ((.loc 0 0) :: (jnk 3 ((.loc 1 0) :: (jnk 36 ((.row 2 (xs.map encStep) (some k)) :: (.v (.int .i64 xs.length)) :: (.v (.int .i64 m)) :: (jnk 11 []))))))),
     [[.v (.int .i64 0),.v (.slice none 0 0),.v (.int .i64 0)],[.v (.int .i64 j),.row 2 (xs.map encStep) (some k),.v (.int .i64 ((xs.map (·.2)).take m).sum)]],h2⟩) xs.length ⟨0,by omega,rfl⟩ ?_
    rintro g2 _ ⟨m,hm,rfl⟩
    have hsb:0≤((xs.map (·.2)).take m).sum∧((xs.map (·.2)).take m).sum≤5000 * 3600000:=by
     have h9:=sum_bdS (xs.take m) fun x hx=>hlong x (List.mem_of_mem_take hx)
     rw [← List.map_take]
     have h10:((xs.take m).length:Int)≤5000:=by simp;omega
     omega
    (repeat (first|refine gO rfl ?_|(refine gM zM35 fun K1 hK1=>?_;simp only [go_sem,↓reduceIte,reduceCtorEq,nA,nB,nC,nD,nE,nF]<;>and_intros<;>(apply hK1;clear hK1 K1))))
    refine awp_cond (t:=_) rfl (fun h9=>?_) (fun h9=>?_)
    ·simp only [decide_eq_true_eq] at h9
     have hmx:m < xs.length:=by omega
     have hgx:(xs.map encStep).getD m []=encStep (xs.getD m default):=getD_enc encStep xs m default hmx
     have hxb:=hlong _ (getD_mem' xs m default hmx)
     have e9:((xs.map (·.2)).take (m+1)).sum=((xs.map (·.2)).take m).sum+(xs.getD m default).2:=by
      rw [sum_take_succ _ _ (by simpa using hmx)]
      congr 1
      rw [List.getD_eq_getElem?_getD,List.getD_eq_getElem?_getD,List.getElem?_map,List.getElem?_eq_getElem hmx];rfl
     generalize xs.getD m default=y at hgx hxb e9
     (repeat (first|refine gO rfl ?_|(refine gM zM35 fun K1 hK1=>?_;simp only [go_sem,↓reduceIte,reduceCtorEq,nA,nB,nC,nD,nE,nF,Int.toNat_natCast,hgx,encStep]<;>and_intros<;>first|(apply hK1;clear hK1 K1)|(intros;(omega)))))
     refine ⟨g2 - 1,by omega,m+1,by omega,?_⟩
     rw [e9];rfl
    ·simp only [decide_eq_false_iff_not] at h9
     have hmx:m=xs.length:=by omega
     rw [List.take_of_length_le (by simp;omega)] at hsb ⊢
     (repeat (first|refine gO rfl ?_|(refine gM zM35 fun K1 hK1=>?_;simp only [go_sem,↓reduceIte,reduceCtorEq,nA,nB,nC,nD,nE,nF]<;>and_intros<;>(apply hK1;clear hK1 K1))))
     simp only [Tryz.results79,go_sem,↓reduceIte,reduceCtorEq,nA,nB,nC,nD,nE,nF]
     refine ⟨_,_,Weak.tup1 (Weak.agg (.cons (Weak.refl _) (.cons (Weak.row _ _ _) (.cons (Weak.refl _) .nil)))) (Weak.refl _),Hp.le.refl _,rfl⟩
   | false =>
    refine awp_cond (t:=_) rfl (fun _=>?_) (fun h=>by cases h)
    (repeat ((refine gO rfl ?_)))
    exact ⟨fun n h1 h2=>by
     by_cases e:n=j
     ·rw [e];exact eh
     ·exact hnh n h1 (by omega),rfl⟩
 ·rintro _ ⟨hnh2,rfl⟩
  (repeat (first|refine gO rfl ?_|(refine gM zM35 fun K1 hK1=>?_;simp only [go_sem,↓reduceIte,reduceCtorEq,nA,nB,nC,nD,nE,nF]<;>and_intros)))
  refine (g_passP d t a _ h2 o k _ hv hR2 hS (hok j).1 hO2 hoa (by omega)).mono ?_
  rintro r h6 ⟨rfl,s2,out2,hR6,hO6,_,q1,q2,q3⟩
  have e5:=passesU_len d t j
  refine hK1 _ ?_;clear hK1 K1
  (repeat (first|refine gO rfl ?_|(refine gM zM35 fun K1 hK1=>?_;simp only [go_sem,↓reduceIte,reduceCtorEq,nA,nB,nC,nD,nE,nF]<;>and_intros<;>first|(apply hK1;clear hK1 K1)|(intros;(omega))|skip)))
  refine (g_full28 o k h6 _ hO6).mono ?_;rintro _ hz ⟨rfl,hh⟩;apply hK1;clear hK1 K1;rw [hh];clear hh hz
  by_cases hl6:(passesU d t (j+1)).2.length≤5000
  ·obtain ⟨rfl,rfl⟩:=q2 hlj (by omega)
   have hj6:j+1≤5000:=by have:=(hok (j+1)).2.2;omega
   have hnf:decide ((5000:Int) < ((passesU d t j).2++(passU d t (passesU d t j).1).2).length)=false:=by simp only [decide_eq_false_iff_not,List.length_append];omega
   have hnf2:decide ((5000:Int) < (j:Int)+1)=false:=by simp only [decide_eq_false_iff_not];omega
   (repeat (first|refine gO rfl ?_|(refine gM zM35 fun K1 hK1=>?_;simp only [go_sem,↓reduceIte,reduceCtorEq,nA,nB,nC,nD,nE,nF,hnf,hnf2]<;>and_intros<;>(apply hK1;clear hK1 K1))))
   refine awp_cond (t:=_) rfl (fun h=>by cases h) (fun _=>?_)
   (repeat ((refine gO rfl ?_)))
   exact ⟨g - 1,by omega,j+1,h6,by omega,hl6,fun n h1 h2=>hnh2 n h1 (by omega),hR6,hO6,rfl⟩
  ·obtain ⟨z1,_⟩:=q3 hlj (by omega)
   have hr0:roundN d t=0:=round_long (j:=j) (by omega) hnh2
   have hnf:decide ((5000:Int) < out2.length)=true:=by simp only [decide_eq_true_eq];omega
   rw [roundC_none hr0,(roundS_none hr0).2]
   (repeat (first|refine gO rfl ?_|(refine gM zM35 fun K1 hK1=>?_;simp only [go_sem,↓reduceIte,reduceCtorEq,nA,nB,nC,nD,nE,nF,hnf]<;>and_intros<;>(apply hK1;clear hK1 K1))))
   refine awp_cond (t:=_) rfl (fun _=>?_) (fun h=>by cases h)
   (repeat (first|refine gO rfl ?_|(refine gM zM35 fun K1 hK1=>?_;simp only [go_sem,↓reduceIte,reduceCtorEq,nA,nB,nC,nD,nE,nF]<;>and_intros<;>(apply hK1;clear hK1 K1))))
   simp only [Tryz.results79,go_sem,↓reduceIte,reduceCtorEq,nA,nB,nC,nD,nE,nF]
   refine ⟨_,_,Weak.tup1 (Weak.agg (.cons (Weak.refl _) (.cons (Weak.nil 2 0 0 ⟨rfl,rfl⟩) (.cons (Weak.refl _) .nil)))) (Weak.refl _),Hp.le.refl _,rfl⟩
abbrev zP1NE:List Nat:=[0,1,2,3,4,5,6,7]
abbrev zP1NP:List (Nat × List Nat × List Nat):=[]
abbrev zP1OE:List Nat:=[0,1,2,3,4,5,6,7,8,9,10,11,12,13,14]
abbrev zP1OP:List (Nat × List Nat × List Nat):=[]
attribute [go_sem] zP1NE zP1NP zP1OE zP1OP
theorem part_of_fault {t:LT} (h:faultF t=0):partF t=0:=by
 unfold faultF at h
 split at h
 ·cases h
 ·exact h
noncomputable def rdE (d:Nat) (t:LT):Int:=if faultF t=0 then roundE d t else faultF t
noncomputable def rdS (d:Nat) (t:LT):List (ByteArray × Int):=if faultF t=0 then roundS d t else []
abbrev zP1PE:List Nat:=[0,1,2,3,4,5,6,7,8,9,10]
abbrev zP1PP:List (Nat × List Nat × List Nat):=[]
attribute [go_sem] zP1PE zP1PP
def orI:List Int→Int
 | []=>0
 | x :: l=>if x=0 then orI l else x
abbrev zP1QE:List Nat:=[0,1,2,3,4,5,6,7,8,9,10,11]
abbrev zP1QP:List (Nat × List Nat × List Nat):=[(12,[],[])]
attribute [go_sem] zP1QE zP1QP
theorem g_tallies (xs:List (ByteArray × Int)) (h:Hp) (hp:Pos xs) (hl:xs.length≤5000):ACalls Tryz.prog 81 [.row 2 (xs.map encStep) none] h (fun r h'=>∃ m ks f,r=.map m∧TalI h' m xs (xs.map (·.1)) ks f):=by
 refine gE Tryz.func81 rfl (by kernel_rfl) 46 rfl fun c=>?_
 (repeat (first|refine gQ rfl ?_|((refine gM zM36 fun K1 hK1=>?_;simp only [go_sem,↓reduceIte,reduceCtorEq,nA,nB,nC,nD,nE,nF]<;>and_intros<;>first|(apply hK1;clear hK1 K1)|skip))))
 intro m hm
 refine hK1 _ ?_;clear hK1 K1
 (repeat ((refine gQ rfl ?_)))
 refine awp_seq ?_
 (repeat (first|refine gO rfl ?_|((refine gM zM36 fun K1 hK1=>?_;simp only [go_sem,↓reduceIte,reduceCtorEq,nA,nB,nC,nD,nE,nF]<;>and_intros<;>(apply hK1;clear hK1 K1)))))
 refine awp_loopC (rl false [3,1,3,3,37]) 0 (fun g s=>∃ (j:Nat) (h2:Hp) (ks:List ByteArray) (f:ByteArray→Nat),g+j=xs.length∧TalI h2 m (xs.take j) ((xs.take j).map (·.1)) ks f ∧
  s=⟨((jnk 3 ((.map m) :: (jnk 3 ((.row 2 (xs.map encStep) none) :: (.v (.int .i64 xs.length)) :: (.v (.int .i64 j)) :: (jnk 37 [])))))),[],h2⟩) xs.length ⟨0,_,[],fun _=>0,by omega,TalI.nil (upd_same _ _ _),rfl⟩ ?_
 rintro g _ ⟨j,h2,ks,f,hj,hT,rfl⟩
 (repeat (first|refine gO rfl ?_|((refine gM zM36 fun K1 hK1=>?_;simp only [go_sem,↓reduceIte,reduceCtorEq,nA,nB,nC,nD,nE,nF]<;>and_intros<;>(apply hK1;clear hK1 K1)))))
 refine awp_cond (t:=_) rfl (fun h1=>?_) (fun h1=>?_)
 ·simp only [decide_eq_true_eq] at h1
  have hjl:j < xs.length:=by omega
  have gx:(xs.map encStep).getD j []=encStep (xs.getD j default):=getD_enc encStep xs j default hjl
  have tx:(xs.take (j+1)).map (·.1)=(xs.take j).map (·.1)++[(xs.getD j default).1]:=by rw [take_at xs j hjl];simp
  have hxb:=pos_at hp hjl
  obtain ⟨q,hq⟩:∃ q,(xs.getD j default).1=q:=⟨_,rfl⟩
  obtain ⟨y,hy⟩:∃ y,(xs.getD j default).2=y:=⟨_,rfl⟩
  have gx2:(xs.map encStep).getD j []=[.v (.string q),.v (.int .i64 y)]:=by rw [gx,encStep,hq,hy]
  rw [hy] at hxb
  rw [hq] at tx
  have hM:=hT.map
  clear gx
  (repeat ((refine gQ rfl ?_)))
  refine awp_seq ?_
  refine awp_block ?_
  (repeat (first|refine gQ rfl ?_|((refine gM zM36 fun K1 hK1=>?_;simp only [go_sem,↓reduceIte,reduceCtorEq,nA,nB,nC,nD,nE,nF,Int.toNat_natCast,gx2]<;>and_intros<;>first|(apply hK1;clear hK1 K1)|(intros;(omega))))))
  refine awp_seq ?_
  refine awp_join (rl false [3,1,1,1,1,3,37]) 1 (fun s=>∃ (h3:Hp) (ks3:List ByteArray) (f3:ByteArray→Nat),q∈ks3∧TalI h3 m (xs.take j) ((xs.take (j+1)).map (·.1)) ks3 f3 ∧
   s=⟨((jnk 3 ((.map m) :: AV.junk :: ((.loc 0 0) :: AV.junk :: ((.row 2 (xs.map encStep) none) :: (.v (.int .i64 xs.length)) :: (.v (.int .i64 j)) :: (jnk 37 [])))))),[[.v (.string q),.v (.int .i64 y)]],h3⟩) ?_ ?_
  ·by_cases hk:q∈ks
   ·have hG:=(mget_ptrs f ks q).1 hk
    (repeat (first|refine gO rfl ?_|((refine gM zM36 fun K1 hK1=>?_;simp only [go_sem,↓reduceIte,reduceCtorEq,nA,nB,nC,nD,nE,nF,hM,hG]<;>and_intros<;>(apply hK1;clear hK1 K1)))))
    refine awp_cond (t:=_) rfl (fun h9=>by cases h9) (fun _=>?_)
    (repeat ((refine gO rfl ?_)))
    exact ⟨_,ks,f,hk,by rw [tx];exact hT.same hk,rfl⟩
   ·have hG:=(mget_ptrs f ks q).2 hk
    (repeat (first|refine gO rfl ?_|((refine gM zM36 fun K1 hK1=>?_;simp only [go_sem,↓reduceIte,reduceCtorEq,nA,nB,nC,nD,nE,nF,hM,hG]<;>and_intros<;>(apply hK1;clear hK1 K1)))))
    refine awp_cond (t:=_) rfl (fun _=>?_) (fun h9=>by cases h9)
    (repeat (((refine gM zM36 fun K1 hK1=>?_;simp only [go_sem,↓reduceIte,reduceCtorEq,nA,nB,nC,nD,nE,nF,hM,hG]<;>and_intros))))
    intro i hi
    have him:m≠i:=fun e=>by rw [← e,hM] at hi;cases hi
    have hMi:∀ X,upd h2.H i X m=some (AO.map (ptrsL f ks)):=fun X=>by rw [upd_other _ _ him];exact hM
    simp only [hMi]
    refine hK1 _ ?_;clear hK1 K1
    (repeat ((refine gO rfl ?_)))
    have hz:=longF_zero (xs:=xs.take j) (k:=q) (fun e=>hk ((hT.mem q).2 e))
    refine ⟨_,ks++[q],fun k=>if k=q then i else f k,by simp,?_,rfl⟩
    rw [tx]
    refine hT.born hk hi ?_ ?_ fun n h5 h6=>?_
    ·show upd _ m _ m=_
     rw [upd_same,mset_ptrs hk]
    ·show upd _ m _ i=_
     rw [upd_other _ _ (Ne.symm him),upd_same,tCell,hz.1,hz.2];rfl
    ·show upd _ m _ n=_
     rw [upd_other _ _ h6,upd_other _ _ h5]
  ·rintro _ ⟨h3,ks3,f3,hk3,hT3,rfl⟩
   have hM3:=hT3.map
   have hG3:=(mget_ptrs f3 ks3 q).1 hk3
   have hC3:=hT3.cell q hk3
   have hne:=hT3.ne q hk3
   rw [tCell] at hC3
   have hM4:∀ X,upd h3.H (f3 q) X m=some (AO.map (ptrsL f3 ks3)):=fun X=>by rw [upd_other _ _ (Ne.symm hne)];exact hM3
   have hcl:=cntF_le (xs.take j) q
   have hlj:(xs.take j).length≤5000:=by rw [List.length_take];omega
   have hlb:=longF_bd (xs:=xs.take j) (fun x hx=>hp x (List.mem_of_mem_take hx)) q
   obtain ⟨cn,hcn⟩:∃ cn,cntF (xs.take j) q=cn:=⟨_,rfl⟩
   obtain ⟨lg,hlg⟩:∃ lg,longF (xs.take j) q=lg:=⟨_,rfl⟩
   rw [hcn,hlg] at hC3
   rw [hcn] at hcl
   rw [hlg] at hlb
   (repeat (first|refine gO rfl ?_|((first|refine gM zM36 ?_|(with_reducible refine wM ?_ ?_)|((with_reducible refine xR ?_);refine uE 8 zM36 zP1QE zP1QP 47 rfl (by kernel_rfl) ?_))<;>((try with_reducible intro K1 hK1);simp only [go_sem,↓reduceIte,reduceCtorEq,nA,nB,nC,nD,nE,nF,hM3,hG3,hC3,hM4,upd_same]<;>and_intros<;>first|(apply hK1;clear hK1 K1)|(intros;(omega))))))
   refine ⟨g - 1,by omega,j+1,_,ks3,f3,by omega,hT3.more hjl hq hk3 ?_ (fun i hi=>upd_other _ _ hi),rfl⟩
   show upd _ (f3 q) _ (f3 q)=_
   rw [upd_same,tCell,cntF_yes hjl hq,longF_yes hjl hq,hcn,hlg,hy];rfl
 ·simp only [decide_eq_false_iff_not] at h1
  have hjl:j=xs.length:=by omega
  subst hjl
  rw [List.take_length] at *
  (repeat (first|refine gO rfl ?_|((refine gM zM36 fun K1 hK1=>?_;simp only [go_sem,↓reduceIte,reduceCtorEq,nA,nB,nC,nD,nE,nF]<;>and_intros<;>(apply hK1;clear hK1 K1)))))
  simp only [Tryz.results81,go_sem,↓reduceIte,reduceCtorEq,nA,nB,nC,nD,nE,nF]
  exact ⟨_,_,Weak.refl _,Hp.le.refl _,m,ks,f,rfl,hT⟩
def IZ:Nat→LT→Prop
 | 0,_=>True
 | d+1,.mk _ item _ _ kids _=>item.size≤2∧∀ k∈kids,IZ d k
theorem IZ.dflt:∀ d:Nat,IZ d default
 | 0=>trivial
 | d+1=>show IZ (d+1) (.mk 0 default 0 0 [] []) from ⟨Nat.zero_le _,fun k hk=>(by cases hk)⟩
theorem iz_of:∀ (d:Nat) (t:LT),KC d t→IZ d t
 | 0,_,_=>trivial
 | d+1,.mk kind item long many kids shares,h=>⟨h.2.1,fun k hk=>iz_of d k (h.2.2.2.2.2.2.2 k hk)⟩
theorem pass_item:∀ (d:Nat) (t:LT) (s:PS),IZ d t→∀ x∈(passU d t s).2,x.1.size≤2
 | 0,_,_,_=>by simp [passU]
 | d+1,.mk kind item long many kids shares,.mk p cs ks,hi=>by
  rw [passU_succ]
  have hk:∀ i,IZ d (kids.getD i default):=fun i=>by
   by_cases h:i < kids.length
   ·exact hi.2 _ (getD_mem' kids i default h)
   ·rw [List.getD_eq_getElem?_getD,List.getElem?_eq_none (by omega)];exact IZ.dflt d
  have key:∀ (L:List Nat) (a:(List Int × List PS) × List (ByteArray × Int)),(∀ x∈a.2,x.1.size≤2)→∀ x∈(L.foldl (stepU (passU d) kids) a).2,x.1.size≤2:=fun L=>by
   induction L with
   | nil=>intro a h;exact h
   | cons i L ih =>
    intro a h
    refine ih _ (fun x hx=>?_)
    rcases List.mem_append.1 hx with h9|h9
    ·exact h x h9
    ·exact pass_item d _ _ (hk i) x h9
  refine key _ _ ?_
  split
  ·intro x hx
   rw [List.mem_singleton.1 hx]
   exact hi.1
  ·simp
theorem passes_item {d:Nat} {t:LT} (h:IZ d t):∀ n,∀ x∈(passesU d t n).2,x.1.size≤2
 | 0=>by simp [passesU]
 | n+1=>fun x hx=>by
  rcases List.mem_append.1 hx with h9|h9
  ·exact passes_item h n x h9
  ·exact pass_item d t _ h x h9
structure GoodS (xs:List (ByteArray × Int)):Prop where
 ne:xs≠[]
 len:xs.length≤5000
 pos:Pos xs
 item:∀ x∈xs,x.1.size≤2
theorem rd_good {d:Nat} {t:LT} (hb:KC d t) (h:rdE d t=0):GoodS (rdS d t):=by
 unfold rdE at h
 unfold rdS
 by_cases hf:faultF t=0
 ·rw [if_pos hf] at h ⊢
  have hp:=part_of_fault hf
  have hv:=vl_of d t hb hp
  refine ⟨fun e=>?_,roundS_len d t,roundS_long (il_of d t hp),fun x hx=>?_⟩
  ·have:=roundS_pos hv h
   rw [e] at this;simp at this
  ·unfold roundS at hx
   split at hx
   ·cases hx
   ·exact passes_item (iz_of d t hb) _ x hx
 ·rw [if_neg hf] at h;exact absurd h hf
abbrev zP1RE:List Nat:=[0,1,2,3,4,5,6,7,8,9,10,12,13,14,15,16,17,18,19]
abbrev zP1RP:List (Nat × List Nat × List Nat):=[(11,[14,17,19],[]),(20,[],[21,22]),(23,[],[]),(24,[],[])]
attribute [go_sem] zP1RE zP1RP
theorem g_isMoment (n:Int) (h:Hp):ACalls Tryz.prog 102 [.v (.int .i64 n)] h (fun r h'=>r=.v (.bool (momB n))∧h'=h):=by
 unfold momB
 refine gE Tryz.func102 rfl (by kernel_rfl) 8 rfl fun c=>?_
 (repeat (first|refine gO rfl ?_|(refine gR fun K1 hK1=>?_;simp only [go_sem,↓reduceIte,reduceCtorEq,nA,nB,nC,nD,nE,nF]<;>and_intros<;>(apply hK1;clear hK1 K1))))
 simp only [Tryz.results102,go_sem,↓reduceIte,reduceCtorEq,nA,nB,nC,nD,nE,nF]
 refine ⟨_,_,Weak.refl _,Hp.le.refl _,?_,rfl⟩
 cases decide (0≤n)<;>rfl
theorem g_timesFault (a b:Int) (h:Hp):ACalls Tryz.prog 78 [.v (.int .i64 a),.v (.int .i64 b)] h (fun r h'=>r=.v (.int .i64 (timeE a b))∧h'=h):=by
 have h1:=fun h=>g_isMoment a h
 have h2:=fun h=>g_isMoment b h
 unfold timeE
 generalize momB a=p at *
 generalize momB b=q at *
 refine gE Tryz.func78 rfl (by kernel_rfl) 14 rfl fun c=>?_
 (repeat (first|refine gO rfl ?_|(refine gR fun K1 hK1=>?_;simp only [go_sem,↓reduceIte,reduceCtorEq,nA,nB,nC,nD,nE,nF]<;>and_intros<;>first|(apply hK1;clear hK1 K1)|skip)))
 refine (h1 _).mono ?_;rintro _ hz ⟨rfl,hh⟩;apply hK1;clear hK1 K1;rw [hh];clear hh hz
 cases p with
 | false =>
  (repeat ((refine gR fun K1 hK1=>?_;simp only [go_sem,↓reduceIte,reduceCtorEq,nA,nB,nC,nD,nE,nF]<;>and_intros<;>first|(apply hK1;clear hK1 K1)|skip)))
  refine ⟨.v (.bool true),rfl,hK1 _ ?_⟩;clear hK1 K1
  (repeat ((refine gO rfl ?_)))
  refine awp_cond (t:=_) rfl (fun _=>?_) (fun h9=>by cases h9)
  (repeat (first|refine gO rfl ?_|(refine gR fun K1 hK1=>?_;simp only [go_sem,↓reduceIte,reduceCtorEq,nA,nB,nC,nD,nE,nF]<;>and_intros<;>(apply hK1;clear hK1 K1))))
  simp only [Tryz.results78,go_sem,↓reduceIte,reduceCtorEq,nA,nB,nC,nD,nE,nF]
  exact ⟨_,_,Weak.refl _,Hp.le.refl _,rfl,rfl⟩
 | true =>
  (repeat ((refine gR fun K1 hK1=>?_;simp only [go_sem,↓reduceIte,reduceCtorEq,nA,nB,nC,nD,nE,nF]<;>and_intros<;>first|(intros;(simp_all<;>omega))|skip)))
  refine (h2 _).mono ?_;rintro _ hz ⟨rfl,hh⟩;refine ⟨rfl,hK1 _ ?_⟩;clear hK1 K1;rw [hh];clear hh hz
  (repeat (first|refine gO rfl ?_|(refine gR fun K1 hK1=>?_;simp only [go_sem,↓reduceIte,reduceCtorEq,nA,nB,nC,nD,nE,nF]<;>and_intros<;>(apply hK1;clear hK1 K1))))
  cases q with
  | false =>
   refine awp_cond (t:=_) rfl (fun _=>?_) (fun h9=>by cases h9)
   (repeat (first|refine gO rfl ?_|(refine gR fun K1 hK1=>?_;simp only [go_sem,↓reduceIte,reduceCtorEq,nA,nB,nC,nD,nE,nF]<;>and_intros<;>(apply hK1;clear hK1 K1))))
   simp only [Tryz.results78,go_sem,↓reduceIte,reduceCtorEq,nA,nB,nC,nD,nE,nF]
   exact ⟨_,_,Weak.refl _,Hp.le.refl _,rfl,rfl⟩
  | true =>
   refine awp_cond (t:=_) rfl (fun h9=>by cases h9) (fun _=>?_)
   (repeat (first|refine gO rfl ?_|(refine gR fun K1 hK1=>?_;simp only [go_sem,↓reduceIte,reduceCtorEq,nA,nB,nC,nD,nE,nF]<;>and_intros<;>(apply hK1;clear hK1 K1))))
   refine awp_cond (t:=_) rfl (fun h9=>?_) (fun h9=>?_)
   ·(repeat (first|refine gO rfl ?_|(refine gR fun K1 hK1=>?_;simp only [go_sem,↓reduceIte,reduceCtorEq,nA,nB,nC,nD,nE,nF]<;>and_intros<;>(apply hK1;clear hK1 K1))))
    simp only [Tryz.results78,go_sem,↓reduceIte,reduceCtorEq,nA,nB,nC,nD,nE,nF]
    exact ⟨_,_,Weak.refl _,Hp.le.refl _,by simp [h9],rfl⟩
   ·(repeat (first|refine gO rfl ?_|(refine gR fun K1 hK1=>?_;simp only [go_sem,↓reduceIte,reduceCtorEq,nA,nB,nC,nD,nE,nF]<;>and_intros<;>(apply hK1;clear hK1 K1))))
    simp only [Tryz.results78,go_sem,↓reduceIte,reduceCtorEq,nA,nB,nC,nD,nE,nF]
    exact ⟨_,_,Weak.refl _,Hp.le.refl _,by simp [h9],rfl⟩
theorem g_at (n:Int) (xs:List (ByteArray × Int)) (x:Int) (h:Hp) (hg:GoodS xs) (h0:0≤x) (h1:x≤1000000000000):ACalls Tryz.prog 80 [.agg [.v (.int .i64 n),.row 2 (xs.map encStep) none,.v (.int .i64 (sumL xs))],.v (.int .i64 x)] h
  (fun r h'=>r=.tup [.v (.int .i64 (posF xs (x.tmod (sumL xs)):Nat)),.v (.int .i64 (x.tmod (sumL xs) - preL xs (posF xs (x.tmod (sumL xs)))))]∧h'=h):=by
 have hs:=sumL_pos hg.pos hg.ne
 have hgl:=hg.len
 have hr:0≤x.tmod (sumL xs)∧x.tmod (sumL xs) < sumL xs:=⟨Int.tmod_nonneg _ h0,Int.tmod_lt_of_pos _ (by omega)⟩
 have hsb:=sumL_bd hg.pos
 have hal:=preL_all xs
 have hne:(sumL xs=0)=False:=by simp;omega
 refine gE Tryz.func80 rfl (by kernel_rfl) 30 rfl fun c=>?_
 (repeat (first|refine gO rfl ?_|(refine gM zM37 fun K1 hK1=>?_;simp only [go_sem,↓reduceIte,reduceCtorEq,nA,nB,nC,nD,nE,nF,hne]<;>and_intros<;>(apply hK1;clear hK1 K1))))
 generalize x.tmod (sumL xs)=rr at *
 refine awp_loopC (rl false [2,1,3,1,7,3,15]) 0 (fun g s=>∃ j:Nat,g+j=xs.length∧preL xs j≤rr ∧
  s=⟨(AV.junk :: AV.junk :: ((.ref [.v (.int .i64 n),.row 2 (xs.map encStep) none,.v (.int .i64 (sumL xs))] 0) :: (jnk 3 ((.v (.int .i64 (rr - preL xs j))) :: (jnk 7 ((.row 2 (xs.map encStep) none) :: (.v (.int .i64 xs.length)) :: (.v (.int .i64 j)) :: (jnk 15 []))))))),[],h⟩) xs.length ⟨0,by omega,by rw [preL_zero];omega,by rw [preL_zero,Int.sub_zero];rfl⟩ ?_
 rintro g _ ⟨j,hj,hle,rfl⟩
 (repeat (first|refine gO rfl ?_|(refine gM zM37 fun K1 hK1=>?_;simp only [go_sem,↓reduceIte,reduceCtorEq,nA,nB,nC,nD,nE,nF]<;>and_intros<;>(apply hK1;clear hK1 K1))))
 refine awp_cond (t:=_) rfl (fun h2=>?_) (fun h2=>?_)
 ·simp only [decide_eq_true_eq] at h2
  have hjl:j < xs.length:=by omega
  have gx:(xs.map encStep).getD j []=encStep (xs.getD j default):=getD_enc encStep xs j default hjl
  have hpa:=pos_at hg.pos hjl
  have hps:=preL_succ xs j hjl
  have hpb:=preL_bd hg.pos j (by omega)
  generalize xs.getD j default=y at gx hpa hps
  (repeat (first|refine gO rfl ?_|(refine gM zM37 fun K1 hK1=>?_;simp only [go_sem,↓reduceIte,reduceCtorEq,nA,nB,nC,nD,nE,nF,Int.toNat_natCast,gx,encStep]<;>and_intros<;>first|(apply hK1;clear hK1 K1)|(intros;(omega)))))
  refine awp_cond (t:=_) rfl (fun h3=>?_) (fun h3=>?_)
  ·simp only [decide_eq_true_eq] at h3
   (repeat (first|refine gO rfl ?_|(refine gM zM37 fun K1 hK1=>?_;simp only [go_sem,↓reduceIte,reduceCtorEq,nA,nB,nC,nD,nE,nF]<;>and_intros<;>(apply hK1;clear hK1 K1))))
   simp only [Tryz.results80,go_sem,↓reduceIte,reduceCtorEq,nA,nB,nC,nD,nE,nF]
   have hpf:=posF_of hg.pos hjl hle (show rr < preL xs (j+1) by omega)
   exact ⟨_,_,Weak.refl _,Hp.le.refl _,by rw [hpf],rfl⟩
  ·simp only [decide_eq_false_iff_not] at h3
   (repeat (first|refine gO rfl ?_|(refine gM zM37 fun K1 hK1=>?_;simp only [go_sem,↓reduceIte,reduceCtorEq,nA,nB,nC,nD,nE,nF]<;>and_intros<;>first|(apply hK1;clear hK1 K1)|(intros;(omega)))))
   refine ⟨g - 1,by omega,j+1,by omega,by omega,?_⟩
   rw [hps,← Int.sub_sub];rfl
 ·simp only [decide_eq_false_iff_not] at h2
  have hjl:j=xs.length:=by omega
  rw [hjl,hal] at hle
  omega
def encD (x:Pl × Bool):List AV:=[.v (.string ⟨#[]⟩),.v (.string x.1.1),.v (.int .i64 x.1.2.1),.v (.int .i64 x.1.2.2),.v (.bool x.2)]
structure RaH (h:Hp) (ia k:Nat) (V:List (Pl × Bool)):Prop where
 a:h.H ia=some (.cells [.row 5 (V.map encD) (some k)])
 t:h.T k=some (.tail V.length)
theorem RaH.push {h:Hp} {ia k:Nat} {V:List (Pl × Bool)} (x:Pl × Bool):RaH ⟨upd h.H ia (some (.cells [.row 5 ((V++[x]).map encD) (some k)])),upd h.T k (some (.tail (V++[x]).length))⟩ ia k (V++[x]):=⟨upd_same _ _ _,upd_same _ _ _⟩
def encP (x:Pl):List AV:=[.v (.string ⟨#[]⟩),.v (.string x.1),.v (.int .i64 x.2.1),.v (.int .i64 x.2.2)]
def encLo (x:ByteArray × Int × Int):List AV:=[.v (.string x.1),.v (.int .i64 x.2.1),.v (.int .i64 1),.v (.int .i64 x.2.2),.v (.int .i64 1)]
def allP (U:List (Pl × Bool)):List (ByteArray × Int):=ofPl (U.map (·.1))
def ownP (U:List (Pl × Bool)):List (ByteArray × Int):=ofPl (ownF U)
theorem take_snoc {α:Type} (l:List α) (j:Nat) (d:α) (h:j < l.length):l.take (j+1)=l.take j++[l.getD j d]:=by
 rw [List.take_add_one,List.getElem?_eq_getElem h,List.getD_eq_getElem?_getD,List.getElem?_eq_getElem h];rfl
theorem filterMap_one {α β:Type} (f:α→Option β) (x:α):[x].filterMap f=(f x).toList:=by
 rw [List.filterMap_cons]
 cases f x<;>rfl
theorem allP_len (U:List (Pl × Bool)):(allP U).length=U.length:=by simp [allP,ofPl]
theorem ownP_len (U:List (Pl × Bool)):(ownP U).length≤U.length:=by
 have:=List.length_filter_le (fun x:Pl × Bool=>!x.2) U
 simpa [ownP,ofPl,ownF] using this
theorem fills_bd:∀ {l:List (Pl × Bool)} {a b:Int},Fills l a b→∀ x∈l,a≤x.1.2.1∧x.1.2.1≤b
 | [],_,_,_,x,hx=>by cases hx
 | y :: l,a,b,h,x,hx=>by
  have h1:=h.1
  have h2:=h.2.1
  have h3:=h.2.2.le
  rcases List.mem_cons.1 hx with rfl|hx
  ·omega
  ·have:=fills_bd h.2.2 x hx
   omega
theorem fills_pos:∀ {l:List (Pl × Bool)} {a b:Int},Fills l a b→∀ x∈l,1≤x.1.2.2
 | [],_,_,_,x,hx=>by cases hx
 | y :: l,a,b,h,x,hx=>by
  rcases List.mem_cons.1 hx with rfl|hx
  ·exact h.2.1
  ·exact fills_pos h.2.2 x hx
structure RunF (xs:List (ByteArray × Int)) (w0 w1:Int) (U:List (Pl × Bool)):Prop where
 fill:Fills U w0 w1
 own:Pos (ownP U)
 item:∀ x∈ownP U,x.1∈xs.map (·.1)
theorem run_facts {xs:List (ByteArray × Int)} (hg:GoodS xs) {w0 w1 m:Int} (hw:w0≤w1) (h0:0≤w0) {bs:List Wn} (hb:Brk bs 0) {U:List (Pl × Bool)} (hU:runE xs w0 w1 m (cutF w0 w1 bs) (0,longA xs 0) w0=U):RunF xs w0 w1 U:=by
 obtain ⟨f1,f2⟩:=fills_run (w0:=w0) (m:=m) hg.pos hg.ne (wf_first hg.pos hg.ne) (Int.le_refl w0) (row_cut hb hw (Int.le_max_right _ _))
 rw [hU] at f1 f2
 have h1:=fills_pos f1
 refine ⟨f1,fun x hx=>?_,fun x hx=>?_⟩
 ·obtain ⟨y,hy,rfl⟩:=List.mem_map.1 hx
  obtain ⟨z,hz,rfl⟩:=List.mem_map.1 hy
  obtain ⟨z1,z2⟩:=List.mem_filter.1 hz
  exact ⟨h1 z z1,(f2 z z1 (by simpa using z2)).1⟩
 ·obtain ⟨y,hy,rfl⟩:=List.mem_map.1 hx
  obtain ⟨z,hz,rfl⟩:=List.mem_map.1 hy
  obtain ⟨z1,z2⟩:=List.mem_filter.1 hz
  exact (f2 z z1 (by simpa using z2)).2
theorem run_all {xs:List (ByteArray × Int)} {w0 w1 m:Int} {s:Nat × Int} {now:Int} {O:List (Pl × Bool)} (hO:runE xs w0 w1 m [] s now=O):ownP O=allP O∧brkF O=[]∧ownF O=O.map (·.1):=by
 rw [runE] at hO
 obtain ⟨e1,e2⟩:=ownF_tag (gapF xs s now w1).1
 rw [hO] at e1 e2
 have e3:O.map (·.1)=(gapF xs s now w1).1:=by rw [← hO,tagF,List.map_map];exact List.map_id _
 refine ⟨?_,e2,by rw [e1,e3]⟩
 rw [ownP,allP,e1,e3]
def durL (l:List Pl):Int:=(l.map fun x=>x.2.2).sum
theorem fills_dur:∀ {l:List (Pl × Bool)} {a b:Int},Fills l a b→durL (l.map (·.1))=b - a
 | [],a,b,h=>by
  have:a=b:=h
  simp [durL];omega
 | x :: l,a,b,h=>by
  have:=fills_dur h.2.2
  simp only [durL,List.map_cons,List.sum_cons] at this ⊢;omega
theorem dur_split:∀ l:List (Pl × Bool),durL (l.map (·.1))=durL (ownF l)+durL (brkF l)
 | []=>by simp [durL,ownF,brkF]
 | (x,b) :: l=>by
  have ih:=dur_split l
  cases b<;>(simp [durL,ownF,brkF] at ih ⊢;omega)
theorem dur_sum (l:List Pl):sumL (ofPl l)=durL l:=by simp only [sumL,ofPl,durL,List.map_map];rfl
theorem brk_run {xs:List (ByteArray × Int)} {w0 w1 m:Int}:∀ (cs:List Pl) (s:Nat × Int) (now:Int),brkF (runE xs w0 w1 m cs s now)=cs.map fun c=>(c.1,c.2.1,c.2.2 - c.2.1)
 | [],s,now=>by rw [runE,(ownF_tag _).2];rfl
 | c :: cs,s,now=>by
  rw [runE,brkF_app,(ownF_tag _).2,List.nil_append,List.map_cons,← brk_run cs _ _]
  rfl
def takeB (w0 w1:Int) (bs:List Pl):Int:=(bs.map fun y=>max 0 (min y.2.2 w1 - max y.2.1 w0)).sum
theorem take_cut (w0 w1:Int):∀ bs:List Pl,durL ((cutF w0 w1 bs).map fun c=>(c.1,c.2.1,c.2.2 - c.2.1))=takeB w0 w1 bs
 | []=>rfl
 | b :: bs=>by
  have ih:=take_cut w0 w1 bs
  rw [cutF_cons]
  simp only [takeB,List.map_cons,List.sum_cons] at ih ⊢
  split
  ·rename_i h
   simp only [durL,List.map_cons,List.sum_cons,cutB] at ih ⊢
   omega
  ·rename_i h
   rw [ih];omega
theorem longF_cons (x:ByteArray × Int) (O:List (ByteArray × Int)) (k:ByteArray):longF (x :: O) k=(if x.1=k then x.2 else 0)+longF O k:=by
 unfold longF
 by_cases e:x.1=k
 ·have hb:(x.1 == k)=true:=by rw [ba_beq];simpa using e
  rw [List.filter_cons_of_pos (p:=fun x:ByteArray × Int=>x.1 == k) hb,if_pos e];simp
 ·have hb:¬ (x.1 == k)=true:=by rw [ba_beq];simpa using e
  rw [List.filter_cons_of_neg (p:=fun x:ByteArray × Int=>x.1 == k) hb,if_neg e];omega
theorem sum_zero (a:ByteArray) (v:Int):∀ (K:List ByteArray),a ∉ K→(K.map fun k=>if a=k then v else 0).sum=0
 | [],_=>rfl
 | k :: K,h=>by
  rw [List.map_cons,List.sum_cons,sum_zero a v K (fun h2=>h (List.mem_cons_of_mem _ h2)),if_neg (fun e=>h (by rw [e];exact List.mem_cons_self))];rfl
theorem sum_one (a:ByteArray) (v:Int):∀ (K:List ByteArray),K.Nodup→a∈K→(K.map fun k=>if a=k then v else 0).sum=v
 | [],_,h=>by cases h
 | k :: K,h,hm=>by
  obtain ⟨h1,h2⟩:=List.nodup_cons.1 h
  rw [List.map_cons,List.sum_cons]
  by_cases e:a=k
  ·subst e
   rw [if_pos rfl,sum_zero a v K h1];omega
  ·rcases List.mem_cons.1 hm with hm|hm
   ·exact absurd hm e
   ·rw [if_neg e,sum_one a v K h2 hm];omega
theorem sum_addL {α:Type} (f g:α→Int):∀ l:List α,(l.map fun x=>f x+g x).sum=(l.map f).sum+(l.map g).sum
 | []=>by simp
 | x :: l=>by rw [List.map_cons,List.sum_cons,sum_addL f g l,List.map_cons,List.map_cons,List.sum_cons,List.sum_cons];omega
theorem keys_total {K:List ByteArray} (hK:K.Nodup):∀ (O:List (ByteArray × Int)),(∀ x∈O,x.1∈K)→(K.map (longF O)).sum=sumL O
 | [],_=>by
  have:∀ K:List ByteArray,(K.map (longF [])).sum=0:=fun K=>by
   induction K with
   | nil=>rfl
   | cons k K ih=>rw [List.map_cons,List.sum_cons,ih];rfl
  rw [this];rfl
 | x :: O,h=>by
  have ih:=keys_total hK O fun y hy=>h y (by simp [hy])
  have e:K.map (longF (x :: O))=K.map fun k=>(if x.1=k then x.2 else 0)+longF O k:=List.map_congr_left fun k _=>longF_cons x O k
  rw [e,sum_addL,sum_one x.1 x.2 K hK (h x (by simp)),ih]
  simp [sumL]
theorem lost_total (W O:List (ByteArray × Int)):∀ (K:List ByteArray),((K.filterMap (lostK W O)).map fun x=>x.2.2).sum=(K.map fun k=>longF O k - longF W k).sum
 | []=>rfl
 | k :: K=>by
  have ih:=lost_total W O K
  rw [List.filterMap_cons,List.map_cons,List.sum_cons,← ih]
  unfold lostK
  split
  ·rename_i h
   split at h
   ·cases h
   ·rename_i hc;simp only [not_or,Decidable.not_not] at hc;omega
  ·rename_i b h
   split at h
   ·cases h;simp
   ·cases h
theorem sum_subL {α:Type} (f g:α→Int):∀ l:List α,(l.map fun x=>f x - g x).sum=(l.map f).sum - (l.map g).sum
 | []=>by simp
 | x :: l=>by rw [List.map_cons,List.sum_cons,sum_subL f g l,List.map_cons,List.map_cons,List.sum_cons,List.sum_cons];omega
theorem lost_law {xs:List (ByteArray × Int)} (hg:GoodS xs) {w0 w1 m:Int} (hw:w0≤w1) (h0:0≤w0) {bs:List Pl} (hb:Brk bs 0) {U O:List (Pl × Bool)}
  (hU:runE xs w0 w1 m (cutF w0 w1 bs) (0,longA xs 0) w0=U) (hO:runE xs w0 w1 m [] (0,longA xs 0) w0=O) :
  (((onceS (xs.map (·.1))).filterMap (lostK (ownP U) (allP O))).map fun x=>x.2.2).sum=takeB w0 w1 bs:=by
 have fU:=run_facts hg hw h0 hb hU
 have fO:=run_facts hg hw h0 (bs:=[]) trivial (show runE xs w0 w1 m (cutF w0 w1 []) (0,longA xs 0) w0=O from hO)
 have aO:=run_all hO
 rw [lost_total,sum_subL,keys_total (onceS_nodup _) (allP O) (fun x hx=>by
   rw [← aO.1] at hx
   exact (onceS_mem _ _).2 (fO.item x hx)),keys_total (onceS_nodup _) (ownP U) (fun x hx=>(onceS_mem _ _).2 (fU.item x hx))]
 show sumL (ofPl (O.map (·.1))) - sumL (ofPl (ownF U))=_
 rw [dur_sum,dur_sum,fills_dur fO.fill]
 have h1:=fills_dur fU.fill
 rw [dur_split] at h1
 have h2:brkF U=(cutF w0 w1 bs).map fun c=>(c.1,c.2.1,c.2.2 - c.2.1):=by rw [← hU];exact brk_run _ _ _
 rw [h2,take_cut] at h1
 omega
theorem posL_step {xs:List (ByteArray × Int)} (hp:Pos xs) {r d:Int} (h0:0≤r) (h1:r < sumL xs) (hd:1≤d) (hd2:d≤(posL xs r).2):behind xs (posL xs r) d=posL xs ((r+d) % sumL xs):=by
 obtain ⟨p1,p2,p3⟩:=posF_ex hp h0 h1
 have hs:=preL_succ xs (posF xs r) p1
 have hl:longA xs (posF xs r)=(xs.getD (posF xs r) default).2:=rfl
 simp only [posL] at hd2
 have hn:xs≠[]:=fun e=>by subst e;simp at p1
 unfold behind
 by_cases hc:0 < (posL xs r).2 - d
 ·rw [if_pos hc]
  simp only [posL] at hc ⊢
  have hlt:r+d < sumL xs:=by
   have:=preL_mono hp (show posF xs r+1≤xs.length by omega) (Nat.le_refl _)
   rw [preL_all] at this;omega
  have e:posF xs (r+d)=posF xs r:=posF_of hp p1 (by omega) (by omega)
  rw [Int.emod_eq_of_lt (by omega) hlt,e,Prod.mk.injEq]
  exact ⟨rfl,by omega⟩
 ·rw [if_neg hc]
  simp only [posL] at hc
  have e1:r+d=preL xs (posF xs r+1):=by omega
  show nextA xs (posF xs r)=_
  unfold nextA
  by_cases hz:posF xs r+1=xs.length
  ·rw [e1,hz,preL_all,Int.emod_self,Nat.mod_self]
   have h00:posF xs 0=0:=posF_of hp (by omega) (by rw [preL_zero];omega) (by
    have:=preL_succ xs 0 (by omega)
    rw [preL_zero] at this
    have:=(pos_at hp (show 0 < xs.length by omega)).1;omega)
   simp only [posL,h00,preL_zero]
   rw [Prod.mk.injEq];exact ⟨rfl,by omega⟩
  ·have hlt:posF xs r+1 < xs.length:=by omega
   have h2:=preL_succ xs (posF xs r+1) hlt
   have h3:=(pos_at hp hlt).1
   have h4:preL xs (posF xs r+1) < sumL xs:=by
    have:=preL_mono hp (show posF xs r+1+1≤xs.length by omega) (Nat.le_refl _)
    rw [preL_all] at this;omega
   have e2:posF xs (r+d)=posF xs r+1:=posF_of hp hlt (by omega) (by omega)
   have hn0:=preL_nonneg hp (posF xs r+1)
   rw [Nat.mod_eq_of_lt hlt,Int.emod_eq_of_lt (by omega) (by omega)]
   simp only [posL,e2]
   rw [Prod.mk.injEq];exact ⟨rfl,by omega⟩
def stAt (xs:List (ByteArray × Int)) (w0 t:Int):Nat × Int:=posL xs ((t - w0) % sumL xs)
theorem stAt_step {xs:List (ByteArray × Int)} (hp:Pos xs) (hn:xs≠[]) {w0 t d:Int} (hd:1≤d) (hd2:d≤(stAt xs w0 t).2):behind xs (stAt xs w0 t) d=stAt xs w0 (t+d):=by
 have hS:=sumL_pos hp hn
 unfold stAt at hd2 ⊢
 rw [posL_step hp (Int.emod_nonneg _ (by omega)) (Int.emod_lt_of_pos _ (by omega)) hd hd2,Int.emod_add_emod]
 congr 2
 omega
theorem gapN_seen {xs:List (ByteArray × Int)} (hp:Pos xs) (hn:xs≠[]) {w0:Int}:∀ (n:Nat) {a b:Int},(b - a).toNat≤n→a≤b →
  (∀ x∈(gapN xs n (stAt xs w0 a) a b).1,x.1=(xs.getD (stAt xs w0 x.2.1).1 default).1)∧(gapN xs n (stAt xs w0 a) a b).2=stAt xs w0 b
 | 0,a,b,h,hab=>by
  have:a=b:=by omega
  subst this
  exact ⟨fun x hx=>by simp [gapN] at hx,rfl⟩
 | n+1,a,b,h,hab=>by
  rw [gapN]
  by_cases hc:a < b
  ·rw [if_pos hc]
   have hS:=sumL_pos hp hn
   have hw:WfS xs (stAt xs w0 a):=wf_posL hp (Int.emod_nonneg _ (by omega)) (Int.emod_lt_of_pos _ (by omega))
   have h1:=hw.pos
   have hs:=stAt_step hp hn (w0:=w0) (t:=a) (d:=min (stAt xs w0 a).2 (b - a)) (by omega) (by omega)
   rw [hs]
   obtain ⟨q1,q2⟩:=gapN_seen hp hn (w0:=w0) n (a:=a+min (stAt xs w0 a).2 (b - a)) (b:=b) (by omega) (by omega)
   refine ⟨fun x hx=>?_,q2⟩
   rcases List.mem_cons.1 hx with rfl|hx
   ·rfl
   ·exact q1 x hx
  ·rw [if_neg hc]
   have:a=b:=by omega
   subst this
   exact ⟨fun x hx=>by simp at hx,rfl⟩
theorem run_seen {xs:List (ByteArray × Int)} (hp:Pos xs) (hn:xs≠[]) {w0 w1:Int}:∀ {cs:List Pl} {now:Int},w0≤now→Row cs now w1 →
  ∀ x∈runE xs w0 w1 4 cs (stAt xs w0 now) now,x.2=false→x.1.1=(xs.getD (stAt xs w0 x.1.2.1).1 default).1
 | [],now,h0,hr,x,hx,hf=>by
  rw [runE] at hx
  obtain ⟨y,hy,rfl⟩:=List.mem_map.1 hx
  exact (gapN_seen hp hn (w0:=w0) _ (Nat.le_refl _) hr).1 y hy
 | c :: cs,now,h0,hr,x,hx,hf=>by
  obtain ⟨r1,r2,r3⟩:=hr
  have hg:=gapN_seen hp hn (w0:=w0) _ (Nat.le_refl _) r1
  rw [runE] at hx
  rcases List.mem_append.1 hx with hx|hx
  ·obtain ⟨y,hy,rfl⟩:=List.mem_map.1 hx
   exact hg.1 y hy
  ·rcases List.mem_cons.1 hx with rfl|hx
   ·cases hf
   ·have hS:=sumL_pos hp hn
    have e:goOnF xs w0 4 (gapF xs (stAt xs w0 now) now c.2.1).2 c.2.2=stAt xs w0 c.2.2:=by
     rw [goOnF,if_pos rfl,stAt,Int.tmod_eq_emod_of_nonneg (by omega)]
    rw [e] at hx
    exact run_seen hp hn (by omega) r3 x hx hf
theorem brk_in {xs:List (ByteArray × Int)} {w0 w1 m:Int} {bs:List Pl} {s:Nat × Int} {now:Int}:∀ x∈runE xs w0 w1 m (cutF w0 w1 bs) s now,x.2=true→∃ z∈bs,z.2.1≤x.1.2.1∧x.1.2.1 < z.2.2:=by
 intro x hx ht
 have h1:x.1∈brkF (runE xs w0 w1 m (cutF w0 w1 bs) s now):=List.mem_map.2 ⟨x,List.mem_filter.2 ⟨hx,ht⟩,rfl⟩
 rw [brk_run] at h1
 obtain ⟨c,hc,e⟩:=List.mem_map.1 h1
 obtain ⟨h2,h3⟩:=List.mem_filter.1 hc
 obtain ⟨z,hz,rfl⟩:=List.mem_map.1 h2
 refine ⟨z,hz,?_⟩
 rw [← e]
 have h4:max z.2.1 w0 < min z.2.2 w1:=of_decide_eq_true h3
 show z.2.1≤max z.2.1 w0∧max z.2.1 w0 < z.2.2
 omega
theorem first_seen {xs:List (ByteArray × Int)} (hp:Pos xs) (hn:xs≠[]) (w0:Int):(0,longA xs 0)=stAt xs w0 w0:=by
 have h0:=List.length_pos_iff.2 hn
 have h00:posF xs 0=0:=posF_of hp h0 (by rw [preL_zero];omega) (by
  have:=preL_succ xs 0 h0
  rw [preL_zero] at this
  have:=(pos_at hp h0).1;omega)
 unfold stAt
 rw [Int.sub_self,Int.zero_emod]
 simp only [posL,h00,preL_zero]
 rw [Prod.mk.injEq];exact ⟨rfl,by omega⟩
theorem unseen_law {xs:List (ByteArray × Int)} (hg:GoodS xs) {w0 w1:Int} (hw:w0≤w1) {bs:List Pl} (hb:Brk bs 0) {U:List (Pl × Bool)} (hU:runE xs w0 w1 4 (cutF w0 w1 bs) (0,longA xs 0) w0=U) :
  ∀ x∈U,(∃ z∈bs,z.2.1≤x.1.2.1∧x.1.2.1 < z.2.2)∨(w0≤x.1.2.1→x.1.1=(xs.getD (posF xs ((x.1.2.1 - w0).tmod (sumL xs))) default).1):=by
 intro x hx
 cases hf:x.2 with
 | true=>rw [← hU] at hx;exact .inl (brk_in x hx hf)
 | false =>
  refine .inr fun h=>?_
  rw [first_seen hg.pos hg.ne w0] at hU
  rw [← hU] at hx
  rw [run_seen hg.pos hg.ne (Int.le_refl _) (row_cut hb hw (Int.le_max_right _ _)) x hx hf]
  simp only [stAt,posL]
  rw [Int.tmod_eq_emod_of_nonneg (by omega)]
theorem g_indexBr (fid:Nat) (caps:List AV) (xs:List (List AV)) (hx:∀ j,j < xs.length→(xs.getD j []).length=3) (hl:xs.length≤100000) (I P:Nat→Hp→Prop) (h:Hp) (h0:I 0 h)
  (step:∀ j h,j < xs.length→I j h→ACalls Tryz.prog fid (aggOf (xs.getD j []) :: caps) h (fun r h'=>∃ b,r=.v (.bool b)∧(b=true→P j h')∧(b=false→I (j+1) h'))) :
  ACalls Tryz.prog 100 [.row 3 xs none,.fn fid caps] h (fun r h'=>(∃ j:Nat,j < xs.length∧r=.v (.int .i64 j)∧P j h')∨r=.v (.int .i64 (-1))∧I xs.length h'):=by
 refine gE Tryz.func100 rfl (by kernel_rfl) 17 rfl fun c=>?_
 (repeat (first|refine gO rfl ?_|(refine gR fun K1 hK1=>?_;simp only [go_sem,↓reduceIte,reduceCtorEq,nA,nB,nC,nD,nE,nF]<;>and_intros<;>(apply hK1;clear hK1 K1))))
 refine awp_loopC (rl false [0,2,5,2,10]) 0 (fun g s=>∃ (j:Nat) (h':Hp),g+j=xs.length∧I j h'∧s=⟨((.row 3 xs none) :: (.fn fid caps) :: (jnk 5 ((.v (.int .i64 xs.length)) :: (.v (.int .i64 j)) :: (jnk 10 [])))),[],h'⟩) xs.length ⟨0,h,by omega,h0,rfl⟩ ?_
 rintro g _ ⟨j,h',hj,hI,rfl⟩
 (repeat (first|refine gO rfl ?_|(refine gR fun K1 hK1=>?_;simp only [go_sem,↓reduceIte,reduceCtorEq,nA,nB,nC,nD,nE,nF]<;>and_intros<;>(apply hK1;clear hK1 K1))))
 refine awp_cond (t:=_) rfl (fun h1=>?_) (fun h1=>?_)
 ·simp only [decide_eq_true_eq] at h1
  have hjk:j < xs.length:=by omega
  have hlen:=hx j hjk
  have st:=step j h' hjk hI
  (repeat (first|refine gO rfl ?_|(refine gR fun K1 hK1=>?_;simp only [go_sem,↓reduceIte,reduceCtorEq,nA,nB,nC,nD,nE,nF,Int.toNat_natCast,hlen]<;>and_intros<;>first|(apply hK1;clear hK1 K1)|(intros;(omega))|skip)))
  rw [show List.take 3 (xs.getD j [])=xs.getD j [] from List.take_of_length_le (Nat.le_of_eq hlen)]
  refine st.mono ?_;rintro _ _ ⟨b,rfl,hb1,hb2⟩;apply hK1;clear hK1 K1
  (repeat ((refine gO rfl ?_)))
  refine awp_cond (t:=_) rfl (fun h2=>?_) (fun h2=>?_)
  ·(repeat (first|refine gO rfl ?_|(refine gR fun K1 hK1=>?_;simp only [go_sem,↓reduceIte,reduceCtorEq,nA,nB,nC,nD,nE,nF]<;>and_intros<;>(apply hK1;clear hK1 K1))))
   simp only [Tryz.results100,go_sem,↓reduceIte,reduceCtorEq,nA,nB,nC,nD,nE,nF]
   exact ⟨_,_,Weak.refl _,Hp.le.refl _,.inl ⟨j,hjk,rfl,hb1 h2⟩⟩
  ·(repeat (first|refine gO rfl ?_|(refine gR fun K1 hK1=>?_;simp only [go_sem,↓reduceIte,reduceCtorEq,nA,nB,nC,nD,nE,nF]<;>and_intros<;>first|(apply hK1;clear hK1 K1)|(intros;(omega)))))
   exact ⟨g - 1,by omega,j+1,_,by omega,hb2 h2,rfl⟩
 ·simp only [decide_eq_false_iff_not] at h1
  have hjk:j=xs.length:=by omega
  subst hjk
  (repeat (first|refine gO rfl ?_|(refine gR fun K1 hK1=>?_;simp only [go_sem,↓reduceIte,reduceCtorEq,nA,nB,nC,nD,nE,nF]<;>and_intros<;>(apply hK1;clear hK1 K1))))
  simp only [Tryz.results100,go_sem,↓reduceIte,reduceCtorEq,nA,nB,nC,nD,nE,nF]
  exact ⟨_,_,Weak.refl _,Hp.le.refl _,.inr ⟨rfl,hI⟩⟩
theorem g_containsBr (fid:Nat) (caps:List AV) (xs:List (List AV)) (hx:∀ j,j < xs.length→(xs.getD j []).length=3) (hl:xs.length≤100000) (I P:Nat→Hp→Prop) (h:Hp) (h0:I 0 h)
  (step:∀ j h,j < xs.length→I j h→ACalls Tryz.prog fid (aggOf (xs.getD j []) :: caps) h (fun r h'=>∃ b,r=.v (.bool b)∧(b=true→P j h')∧(b=false→I (j+1) h'))) :
  ACalls Tryz.prog 35 [.row 3 xs none,.fn fid caps] h (fun r h'=>(∃ j:Nat,j < xs.length∧r=.v (.bool true)∧P j h')∨r=.v (.bool false)∧I xs.length h'):=by
 refine gE Tryz.func35 rfl (by kernel_rfl) 7 rfl fun c=>?_
 (repeat (first|refine gO rfl ?_|(refine gR fun K1 hK1=>?_;simp only [go_sem,↓reduceIte,reduceCtorEq,nA,nB,nC,nD,nE,nF]<;>and_intros<;>first|(apply hK1;clear hK1 K1)|skip)))
 refine (g_indexBr fid caps xs hx hl I P h h0 step).mono ?_
 rintro _ h' (⟨j,hj,rfl,hp⟩|⟨rfl,hi⟩)
 ·refine hK1 _ ?_;clear hK1 K1
  (repeat (first|refine gO rfl ?_|(refine gR fun K1 hK1=>?_;simp only [go_sem,↓reduceIte,reduceCtorEq,nA,nB,nC,nD,nE,nF]<;>and_intros<;>(apply hK1;clear hK1 K1))))
  simp only [Tryz.results35,go_sem,↓reduceIte,reduceCtorEq,nA,nB,nC,nD,nE,nF]
  exact ⟨_,_,Weak.refl _,Hp.le.refl _,.inl ⟨j,hj,by simp,hp⟩⟩
 ·refine hK1 _ ?_;clear hK1 K1
  (repeat (first|refine gO rfl ?_|(refine gR fun K1 hK1=>?_;simp only [go_sem,↓reduceIte,reduceCtorEq,nA,nB,nC,nD,nE,nF]<;>and_intros<;>(apply hK1;clear hK1 K1))))
  simp only [Tryz.results35,go_sem,↓reduceIte,reduceCtorEq,nA,nB,nC,nD,nE,nF]
  exact ⟨_,_,Weak.refl _,Hp.le.refl _,.inr ⟨by simp,hi⟩⟩
def inBr (x:Pl) (z:Wn):Bool:=decide (z.2.1≤x.2.1) && decide (x.2.1 < z.2.2)
theorem g_inBr (i:Nat) (x:Pl) (z:Wn) (h:Hp) (hi:h.H i=some (.cells (encP x))):ACalls Tryz.prog 36 [.agg (encW z),.ptr i 0] h (fun r h'=>r=.v (.bool (inBr x z))∧h'=h):=by
 unfold encP at hi
 refine gE Tryz.func36 rfl (by kernel_rfl) 16 rfl fun c=>?_
 (repeat (first|refine gO rfl ?_|(refine gR fun K1 hK1=>?_;simp only [go_sem,↓reduceIte,reduceCtorEq,nA,nB,nC,nD,nE,nF,hi,encW]<;>and_intros<;>(apply hK1;clear hK1 K1))))
 unfold inBr
 cases h1:decide (z.2.1≤x.2.1) with
 | false =>
  skip
  simp only [Tryz.results36,go_sem,↓reduceIte,reduceCtorEq,nA,nB,nC,nD,nE,nF]
  exact ⟨_,_,Weak.refl _,Hp.le.refl _,by simp,rfl⟩
 | true =>
  skip
  simp only [Tryz.results36,go_sem,↓reduceIte,reduceCtorEq,nA,nB,nC,nD,nE,nF]
  exact ⟨_,_,Weak.refl _,Hp.le.refl _,by simp,rfl⟩
theorem g_anyBr (i:Nat) (x:Pl) (bs:List Wn) (h:Hp) (hi:h.H i=some (.cells (encP x))) (hl:bs.length≤1000) :
  ACalls Tryz.prog 35 [.row 3 (bs.map encW) none,.fn 36 [.ptr i 0]] h (fun r h'=>r=.v (.bool (bs.any (inBr x)))∧h'=h):=by
 refine (g_containsBr 36 [.ptr i 0] (bs.map encW) (fun j hj=>?_) (by simp;omega) (fun j h'=>h'=h∧(bs.take j).any (inBr x)=false) (fun j h'=>h'=h∧inBr x (bs.getD j default)=true) h ⟨rfl,rfl⟩ ?_).mono ?_
 ·have hj':j < bs.length:=by simpa using hj
  rw [show (bs.map encW).getD j []=encW (bs.getD j default) from getD_enc encW bs j default hj']
  rfl
 ·rintro j h' hj ⟨rfl,hI⟩
  have hj':j < bs.length:=by simpa using hj
  rw [show (bs.map encW).getD j []=encW (bs.getD j default) from getD_enc encW bs j default hj']
  refine (g_inBr i x _ _ hi).mono ?_
  rintro _ h2 ⟨rfl,hh⟩
  refine ⟨_,rfl,fun hb=>⟨hh,hb⟩,fun hb=>⟨hh,?_⟩⟩
  rw [take_snoc bs j default hj',List.any_append,hI]
  simp only [List.any_cons,List.any_nil,hb,Bool.or_false]
 ·rintro _ h' (⟨j,hj,rfl,hh,hb⟩|⟨rfl,hh,hI⟩)
  ·have hj':j < bs.length:=by simpa using hj
   exact ⟨by rw [List.any_eq_true.2 ⟨_,getD_mem' bs j default hj',hb⟩],hh⟩
  ·rw [List.length_map,List.take_length] at hI
   exact ⟨by rw [hI],hh⟩
end Go.Proofs.YtidkkmoiolffnaaGreatDoor
