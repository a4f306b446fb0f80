/- loop's player: full, step, goOn. -/
import Derived.Test.YtidkkmoiolffnaaGreatDoorM3
import Derived.Test.YtidkkmoiolffnaaGreatDoorAvOwn
import Derived.Test.YtidkkmoiolffnaaGreatDoorAvOld
import Derived.Lib.AppendZeros
import Derived.Test.YtidkkmoiolffnaaGreatDoorShelf
import Derived.Shelf.GgSortFunc.InsertionK
import Derived.Shelf.SlSortCmp.WholeK
import Derived.Shelf.SlGeneric
import Derived.Ground.SlsfProg
import Derived.Test.YtidkkmoiolffnaaGreatDoorProg
import Derived.Test.YtidkkmoiolffnaaGreatDoorAvRun
import Derived.Below
namespace Go.Proofs.YtidkkmoiolffnaaGreatDoor
open Go
set_option linter.unusedVariables false
set_option linter.unusedSimpArgs false
open Nat renaming reduceAdd→nA,reduceSub→nB,reduceMul→nC,reduceLT→nD,reduceLeDiff→nE,reduceEqDiff→nF,reduceMod→nG,reduceDiv→nH,reducePow→nI
abbrev zM40:Option Tmp→Nat:=mdL []
abbrev zM41:Option Tmp→Nat:=mdL [(4,1)]
abbrev zM42:Option Tmp→Nat:=mdL [(6,1)]
abbrev zM43:Option Tmp→Nat:=mdL [(12,1),(49,2)]
abbrev zM44:Option Tmp→Nat:=mdL [(5,1)]
abbrev zM45:Option Tmp→Nat:=mdL [(22,1),(23,1)]
abbrev zM46:Option Tmp→Nat:=mdL [(2,1),(3,1)]
abbrev zM47:Option Tmp→Nat:=mdL [(8,1)]
abbrev zM48:Option Tmp→Nat:=mdL [(6,1),(11,1)]
attribute [go_sem] zM40 zM41 zM42 zM43 zM44 zM45 zM46 zM47 zM48
abbrev zP1SE:List Nat:=[0,1,2,3,4,5,6,7,8,9,10,11,12]
abbrev zP1SP:List (Nat × List Nat × List Nat):=[]
abbrev zP1TE:List Nat:=[0,1,2,3,4,5,6,7,8,9,10,11,12,13,14]
abbrev zP1TP:List (Nat × List Nat × List Nat):=[(15,[],[])]
abbrev zP1UE:List Nat:=[0,1,2,3,4,5,6,7,8,9,10]
abbrev zP1UP:List (Nat × List Nat × List Nat):=[(11,[],[12,13,14,15,16])]
abbrev zP1VE:List Nat:=[0,1,2,3,4,5,6,7,8,9,10,11,12,13,14]
abbrev zP1VP:List (Nat × List Nat × List Nat):=[(15,[],[])]
attribute [go_sem] zP1SE zP1SP zP1TE zP1TP zP1UE zP1UP zP1VE zP1VP
set_option maxRecDepth 100000
set_option maxHeartbeats 8000000
def plC (n:Int) (xs:List (ByteArray × Int)) (w0 w1 m:Int) (A B:List Pl) (ka kb:Nat) (s:Nat × Int) (half:Bool):List AV :=
 [.v (.int .i64 n),.row 2 (xs.map encStep) none,.v (.int .i64 (sumL xs)),.v (.int .i64 w0),.v (.int .i64 w1),.v (.int .i64 m),.row 4 (A.map encP) (some ka),.row 4 (B.map encP) (some kb),.v (.int .i64 s.1),.v (.int .i64 s.2),.v (.bool half)]
theorem g_full (n:Int) (xs:List (ByteArray × Int)) (w0 w1 m:Int) (A B:List Pl) (ka kb:Nat) (s:Nat × Int) (half:Bool) (i:Nat) (h:Hp) (hp:h.H i=some (.cells (plC n xs w0 w1 m A B ka kb s half))) (hA:A.length≤100000) (hB:B.length≤100000) :
  ACalls Tryz.prog 155 [.ptr i 0] h (fun r h'=>r=.v (.bool (decide (3000 < A.length+B.length)))∧h'=h):=by
 unfold plC at hp
 have e:decide (3000 < (A.length:Int)+(B.length:Int))=decide (3000 < A.length+B.length):=decide_eq_decide.2 (by omega)
 refine gE Tryz.func155 rfl (by kernel_rfl) 14 rfl fun c=>?_
 (repeat (first|refine gO rfl ?_|((first|refine gR ?_|((with_reducible refine xS ?_);refine uD 1 zM40 zP1SE zP1SP 15 rfl (by kernel_rfl) ?_))<;>((try with_reducible intro K1 hK1);simp only [go_sem,↓reduceIte,reduceCtorEq,nA,nB,nC,nD,nE,nF,hp,List.length_map]<;>and_intros<;>first|(apply hK1;clear hK1 K1)|(intros;(omega))))))
 simp only [Tryz.results155,go_sem,↓reduceIte,reduceCtorEq,nA,nB,nC,nD,nE,nF]
 exact ⟨_,_,Weak.refl _,Hp.le.refl _,by rw [← e],rfl⟩
theorem g_stepP (n:Int) (xs:List (ByteArray × Int)) (w0 w1 m:Int) (A B:List Pl) (ka kb:Nat) (s:Nat × Int) (half:Bool) (i:Nat) (h:Hp) (hp:h.H i=some (.cells (plC n xs w0 w1 m A B ka kb s half))) (hg:GoodS xs) (k:Nat) (hk:k≤1000000) :
  ACalls Tryz.prog 276 [.ptr i 0,.v (.int .i64 k)] h (fun r h'=>r=.agg (encStep (xs.getD (k % xs.length) default))∧h'=h):=by
 unfold plC at hp
 have hx0:=List.length_pos_iff.2 hg.ne
 have hgl:=hg.len
 have er:(k:Int).tmod (xs.length:Int)=((k % xs.length:Nat):Int):=rfl
 have hne:((xs.length:Int)=0)=False:=by have:=hg.ne;simp [this]
 have hml:=Nat.mod_lt k hx0
 have gm:(xs.map encStep).getD (k % xs.length) []=[.v (.string (xs.getD (k % xs.length) default).1),.v (.int .i64 (xs.getD (k % xs.length) default).2)]:=getD_enc encStep xs _ default hml
 generalize xs.getD (k % xs.length) default=x at gm
 refine gE Tryz.func276 rfl (by kernel_rfl) 18 rfl fun c=>?_
 (repeat (first|refine gO rfl ?_|((first|refine gM zM41 ?_|(with_reducible refine wM ?_ ?_)|((with_reducible refine xS ?_);refine uD 1 zM41 zP1TE zP1TP 20 rfl (by kernel_rfl) ?_))<;>((try with_reducible intro K1 hK1);simp only [go_sem,↓reduceIte,reduceCtorEq,nA,nB,nC,nD,nE,nF,hp,hne,er,Int.toNat_natCast,gm,hml,List.length_map]<;>and_intros<;>first|(apply hK1;clear hK1 K1)|(intros;(omega))))))
 simp only [Tryz.results276,go_sem,↓reduceIte,reduceCtorEq,nA,nB,nC,nD,nE,nF]
 exact ⟨_,_,Weak.refl _,Hp.le.refl _,rfl,rfl⟩
def goOnH (xs:List (ByteArray × Int)) (w0 m:Int) (s:Nat × Int) (half:Bool) (at_:Int):Nat × Int :=
 if m=4 then posL xs ((at_ - w0).tmod (sumL xs)) else if half=true∧m=3 then nextA xs s.1 else if half=false∨m=2 then (s.1,longA xs s.1) else s
theorem goOnH_eq {xs:List (ByteArray × Int)} {w0 m:Int} {s:Nat × Int} {half:Bool} (h:WfS xs s) (hh:m=4∨half=decide (s.2 < longA xs s.1)) (at_:Int):goOnH xs w0 m s half at_=goOnF xs w0 m s at_:=by
 unfold goOnH goOnF
 by_cases h4:m=4
 ·rw [if_pos h4,if_pos h4]
 ·rw [if_neg h4,if_neg h4]
  have hh:=hh.resolve_left h4
  have hle:=h.le
  cases half with
  | true =>
   have hlt:s.2 < longA xs s.1:=by simpa using hh.symm
   rw [if_pos hlt]
   by_cases h3:m=3
   ·simp [h3]
   ·by_cases h2:m=2<;>simp [h3,h2]
  | false =>
   have hlt:¬ s.2 < longA xs s.1:=by simpa using hh.symm
   rw [if_neg hlt]
   have e:longA xs s.1=s.2:=by omega
   simp [e]
theorem g_goOnA (n:Int) (xs:List (ByteArray × Int)) (w0 w1 m:Int) (A B:List Pl) (ka kb:Nat) (s:Nat × Int) (half:Bool) (i:Nat) (h:Hp) (hp:h.H i=some (.cells (plC n xs w0 w1 m A B ka kb s half))) (hg:GoodS xs) (hsl:s.1 < xs.length)
  (hm:m=1∨m=2∨m=3∨m=4) (x:Int) (hw:0≤w0∧w0≤x∧x≤1000000000000) :
  ACalls Tryz.prog 275 [.ptr i 0,.v (.int .i64 x)] h (fun r h'=>r=.tup []∧h'=⟨upd h.H i (some (.cells (plC n xs w0 w1 m A B ka kb (goOnH xs w0 m s half x) false))),h.T⟩):=by
 have hx0:=List.length_pos_iff.2 hg.ne
 have hgl:=hg.len
 refine gE Tryz.func275 rfl (by kernel_rfl) 106 rfl fun c=>?_
 have hne:((xs.length:Int)=0)=False:=by have:=hg.ne;simp [this]
 have er:((s.1:Int)+1).tmod (xs.length:Int)=(((s.1+1) % xs.length:Nat):Int):=rfl
 have hml:=Nat.mod_lt (s.1+1) hx0
 have ems:s.1 % xs.length=s.1:=Nat.mod_eq_of_lt hsl
 have hp2:=hp
 unfold plC at hp2
 rcases hm with rfl|rfl|rfl|rfl
 ·cases half with
  | true =>
   have hgo:goOnH xs w0 1 s true x=s:=by simp [goOnH]
   (repeat (first|refine gO rfl ?_|((refine gR fun K1 hK1=>?_;simp only [go_sem,↓reduceIte,reduceCtorEq,nA,nB,nC,nD,nE,nF,hp2]<;>and_intros<;>(apply hK1;clear hK1 K1)))))
   refine awp_cond (t:=_) rfl (fun h9=>by cases h9) (fun _=>?_)
   (repeat (first|refine gO rfl ?_|((refine gR fun K1 hK1=>?_;simp only [go_sem,↓reduceIte,reduceCtorEq,nA,nB,nC,nD,nE,nF,hp2]<;>and_intros<;>(apply hK1;clear hK1 K1)))))
   refine awp_cond (t:=_) rfl (fun h9=>by cases h9) (fun _=>?_)
   (repeat (first|refine gO rfl ?_|((refine gR fun K1 hK1=>?_;simp only [go_sem,↓reduceIte,reduceCtorEq,nA,nB,nC,nD,nE,nF,hp2]<;>and_intros<;>(apply hK1;clear hK1 K1)))))
   refine awp_cond (t:=_) rfl (fun h9=>by cases h9) (fun _=>?_)
   (repeat (first|refine gO rfl ?_|((refine gR fun K1 hK1=>?_;simp only [go_sem,↓reduceIte,reduceCtorEq,nA,nB,nC,nD,nE,nF,hp2]<;>and_intros<;>(apply hK1;clear hK1 K1)))))
   simp only [Tryz.results275,go_sem,↓reduceIte,reduceCtorEq,nA,nB,nC,nD,nE,nF]
   exact ⟨_,_,Weak.refl _,Hp.le.refl _,rfl,by rw [hgo];rfl⟩
  | false =>
   have hgo:goOnH xs w0 1 s false x=(s.1,longA xs s.1):=by simp [goOnH]
   (repeat (first|refine gO rfl ?_|((refine gR fun K1 hK1=>?_;simp only [go_sem,↓reduceIte,reduceCtorEq,nA,nB,nC,nD,nE,nF,hp2]<;>and_intros<;>(apply hK1;clear hK1 K1)))))
   refine awp_cond (t:=_) rfl (fun h9=>by cases h9) (fun _=>?_)
   (repeat (first|refine gO rfl ?_|((refine gR fun K1 hK1=>?_;simp only [go_sem,↓reduceIte,reduceCtorEq,nA,nB,nC,nD,nE,nF,hp2]<;>and_intros<;>(apply hK1;clear hK1 K1)))))
   refine awp_cond (t:=_) rfl (fun h9=>by cases h9) (fun _=>?_)
   (repeat (first|refine gO rfl ?_|((refine gR fun K1 hK1=>?_;simp only [go_sem,↓reduceIte,reduceCtorEq,nA,nB,nC,nD,nE,nF,hp2]<;>and_intros<;>(apply hK1;clear hK1 K1)))))
   refine awp_cond (t:=_) rfl (fun _=>?_) (fun h9=>by cases h9)
   (repeat (((refine gR fun K1 hK1=>?_;simp only [go_sem,↓reduceIte,reduceCtorEq,nA,nB,nC,nD,nE,nF,hp2]<;>and_intros))))
   refine (g_stepP n xs w0 w1 1 A B ka kb s false i h hp hg s.1 (by omega)).mono ?_;rintro _ hz ⟨rfl,hh⟩;apply hK1;clear hK1 K1;rw [hh];clear hh hz
   rw [ems]
   (repeat (first|refine gO rfl ?_|((refine gR fun K1 hK1=>?_;simp only [go_sem,↓reduceIte,reduceCtorEq,nA,nB,nC,nD,nE,nF,hp2,encStep]<;>and_intros<;>(apply hK1;clear hK1 K1)))))
   simp only [Tryz.results275,go_sem,↓reduceIte,reduceCtorEq,nA,nB,nC,nD,nE,nF]
   exact ⟨_,_,Weak.refl _,Hp.le.refl _,rfl,by rw [hgo];rfl⟩
 ·cases half with
  | true =>
   have hgo:goOnH xs w0 2 s true x=(s.1,longA xs s.1):=by simp [goOnH]
   (repeat (first|refine gO rfl ?_|((refine gR fun K1 hK1=>?_;simp only [go_sem,↓reduceIte,reduceCtorEq,nA,nB,nC,nD,nE,nF,hp2]<;>and_intros<;>(apply hK1;clear hK1 K1)))))
   refine awp_cond (t:=_) rfl (fun h9=>by cases h9) (fun _=>?_)
   (repeat (first|refine gO rfl ?_|((refine gR fun K1 hK1=>?_;simp only [go_sem,↓reduceIte,reduceCtorEq,nA,nB,nC,nD,nE,nF,hp2]<;>and_intros<;>(apply hK1;clear hK1 K1)))))
   refine awp_cond (t:=_) rfl (fun h9=>by cases h9) (fun _=>?_)
   (repeat (first|refine gO rfl ?_|((refine gR fun K1 hK1=>?_;simp only [go_sem,↓reduceIte,reduceCtorEq,nA,nB,nC,nD,nE,nF,hp2]<;>and_intros<;>(apply hK1;clear hK1 K1)))))
   refine awp_cond (t:=_) rfl (fun _=>?_) (fun h9=>by cases h9)
   (repeat (((refine gR fun K1 hK1=>?_;simp only [go_sem,↓reduceIte,reduceCtorEq,nA,nB,nC,nD,nE,nF,hp2]<;>and_intros))))
   refine (g_stepP n xs w0 w1 2 A B ka kb s true i h hp hg s.1 (by omega)).mono ?_;rintro _ hz ⟨rfl,hh⟩;apply hK1;clear hK1 K1;rw [hh];clear hh hz
   rw [ems]
   (repeat (first|refine gO rfl ?_|((refine gR fun K1 hK1=>?_;simp only [go_sem,↓reduceIte,reduceCtorEq,nA,nB,nC,nD,nE,nF,hp2,encStep]<;>and_intros<;>(apply hK1;clear hK1 K1)))))
   simp only [Tryz.results275,go_sem,↓reduceIte,reduceCtorEq,nA,nB,nC,nD,nE,nF]
   exact ⟨_,_,Weak.refl _,Hp.le.refl _,rfl,by rw [hgo];rfl⟩
  | false =>
   have hgo:goOnH xs w0 2 s false x=(s.1,longA xs s.1):=by simp [goOnH]
   (repeat (first|refine gO rfl ?_|((refine gR fun K1 hK1=>?_;simp only [go_sem,↓reduceIte,reduceCtorEq,nA,nB,nC,nD,nE,nF,hp2]<;>and_intros<;>(apply hK1;clear hK1 K1)))))
   refine awp_cond (t:=_) rfl (fun h9=>by cases h9) (fun _=>?_)
   (repeat (first|refine gO rfl ?_|((refine gR fun K1 hK1=>?_;simp only [go_sem,↓reduceIte,reduceCtorEq,nA,nB,nC,nD,nE,nF,hp2]<;>and_intros<;>(apply hK1;clear hK1 K1)))))
   refine awp_cond (t:=_) rfl (fun h9=>by cases h9) (fun _=>?_)
   (repeat (first|refine gO rfl ?_|((refine gR fun K1 hK1=>?_;simp only [go_sem,↓reduceIte,reduceCtorEq,nA,nB,nC,nD,nE,nF,hp2]<;>and_intros<;>(apply hK1;clear hK1 K1)))))
   refine awp_cond (t:=_) rfl (fun _=>?_) (fun h9=>by cases h9)
   (repeat (((refine gR fun K1 hK1=>?_;simp only [go_sem,↓reduceIte,reduceCtorEq,nA,nB,nC,nD,nE,nF,hp2]<;>and_intros))))
   refine (g_stepP n xs w0 w1 2 A B ka kb s false i h hp hg s.1 (by omega)).mono ?_;rintro _ hz ⟨rfl,hh⟩;apply hK1;clear hK1 K1;rw [hh];clear hh hz
   rw [ems]
   (repeat (first|refine gO rfl ?_|((refine gR fun K1 hK1=>?_;simp only [go_sem,↓reduceIte,reduceCtorEq,nA,nB,nC,nD,nE,nF,hp2,encStep]<;>and_intros<;>(apply hK1;clear hK1 K1)))))
   simp only [Tryz.results275,go_sem,↓reduceIte,reduceCtorEq,nA,nB,nC,nD,nE,nF]
   exact ⟨_,_,Weak.refl _,Hp.le.refl _,rfl,by rw [hgo];rfl⟩
 ·cases half with
  | true =>
   have hgo:goOnH xs w0 3 s true x=nextA xs s.1:=by simp [goOnH]
   (repeat (first|refine gO rfl ?_|((refine gR fun K1 hK1=>?_;simp only [go_sem,↓reduceIte,reduceCtorEq,nA,nB,nC,nD,nE,nF,hp2]<;>and_intros<;>(apply hK1;clear hK1 K1)))))
   refine awp_cond (t:=_) rfl (fun h9=>by cases h9) (fun _=>?_)
   (repeat (first|refine gO rfl ?_|((refine gR fun K1 hK1=>?_;simp only [go_sem,↓reduceIte,reduceCtorEq,nA,nB,nC,nD,nE,nF,hp2]<;>and_intros<;>(apply hK1;clear hK1 K1)))))
   refine awp_cond (t:=_) rfl (fun _=>?_) (fun h9=>by cases h9)
   (repeat (first|refine gO rfl ?_|((first|refine gR ?_|(with_reducible refine wM ?_ ?_)|((with_reducible refine xS ?_);refine uD 4 zM40 zP1VE zP1VP 108 rfl (by kernel_rfl) ?_))<;>((try with_reducible intro K1 hK1);simp only [go_sem,↓reduceIte,reduceCtorEq,nA,nB,nC,nD,nE,nF,hp2,hne,er,List.length_map]<;>and_intros<;>first|(apply hK1;clear hK1 K1)|(intros;(omega))|skip))))
   have hu:∀ X:Option AO,upd h.H i X i=X:=fun X=>upd_same _ _ _
   have huu:∀ X Y:Option AO,upd (upd h.H i X) i Y=upd h.H i Y:=fun X Y=>upd_upd _ _ _ _
   refine (g_stepP n xs w0 w1 3 A B ka kb ((s.1+1) % xs.length,s.2) true i _ (upd_same _ _ _) hg ((s.1+1) % xs.length) (by omega)).mono ?_;rintro _ hz ⟨rfl,hh⟩;apply hK1;clear hK1 K1;rw [hh];clear hh hz
   rw [Nat.mod_mod]
   (repeat (first|refine gO rfl ?_|((refine gR fun K1 hK1=>?_;simp only [go_sem,↓reduceIte,reduceCtorEq,nA,nB,nC,nD,nE,nF,hu,huu,encStep]<;>and_intros<;>(apply hK1;clear hK1 K1)))))
   simp only [Tryz.results275,go_sem,↓reduceIte,reduceCtorEq,nA,nB,nC,nD,nE,nF]
   exact ⟨_,_,Weak.refl _,Hp.le.refl _,rfl,by rw [hgo];rfl⟩
  | false =>
   have hgo:goOnH xs w0 3 s false x=(s.1,longA xs s.1):=by simp [goOnH]
   (repeat (first|refine gO rfl ?_|((refine gR fun K1 hK1=>?_;simp only [go_sem,↓reduceIte,reduceCtorEq,nA,nB,nC,nD,nE,nF,hp2]<;>and_intros<;>(apply hK1;clear hK1 K1)))))
   refine awp_cond (t:=_) rfl (fun h9=>by cases h9) (fun _=>?_)
   (repeat (first|refine gO rfl ?_|((refine gR fun K1 hK1=>?_;simp only [go_sem,↓reduceIte,reduceCtorEq,nA,nB,nC,nD,nE,nF,hp2]<;>and_intros<;>(apply hK1;clear hK1 K1)))))
   refine awp_cond (t:=_) rfl (fun h9=>by cases h9) (fun _=>?_)
   (repeat (first|refine gO rfl ?_|((refine gR fun K1 hK1=>?_;simp only [go_sem,↓reduceIte,reduceCtorEq,nA,nB,nC,nD,nE,nF,hp2]<;>and_intros<;>(apply hK1;clear hK1 K1)))))
   refine awp_cond (t:=_) rfl (fun _=>?_) (fun h9=>by cases h9)
   (repeat (((refine gR fun K1 hK1=>?_;simp only [go_sem,↓reduceIte,reduceCtorEq,nA,nB,nC,nD,nE,nF,hp2]<;>and_intros))))
   refine (g_stepP n xs w0 w1 3 A B ka kb s false i h hp hg s.1 (by omega)).mono ?_;rintro _ hz ⟨rfl,hh⟩;apply hK1;clear hK1 K1;rw [hh];clear hh hz
   rw [ems]
   (repeat (first|refine gO rfl ?_|((refine gR fun K1 hK1=>?_;simp only [go_sem,↓reduceIte,reduceCtorEq,nA,nB,nC,nD,nE,nF,hp2,encStep]<;>and_intros<;>(apply hK1;clear hK1 K1)))))
   simp only [Tryz.results275,go_sem,↓reduceIte,reduceCtorEq,nA,nB,nC,nD,nE,nF]
   exact ⟨_,_,Weak.refl _,Hp.le.refl _,rfl,by rw [hgo];rfl⟩
 ·have hr:=rest_bd hg.pos hg.ne hw.2.1
  obtain ⟨q1,q2,q3⟩:=posF_ex hg.pos hr.1 hr.2
  have hpb:=preL_bd hg.pos (posF xs ((x - w0).tmod (sumL xs))) (by omega)
  have hpa:=longA_bd hg.pos q1
  have hsb:=sumL_bd hg.pos
  have gq:(xs.map encStep).getD (posF xs ((x - w0).tmod (sumL xs))) []=[.v (.string (xs.getD (posF xs ((x - w0).tmod (sumL xs))) default).1),.v (.int .i64 (longA xs (posF xs ((x - w0).tmod (sumL xs)))))]:=getD_enc encStep xs _ default q1
  have hgo:goOnH xs w0 4 s half x=(posF xs ((x - w0).tmod (sumL xs)),longA xs (posF xs ((x - w0).tmod (sumL xs))) - ((x - w0).tmod (sumL xs) - preL xs (posF xs ((x - w0).tmod (sumL xs))))):=by rw [goOnH,if_pos rfl];rfl
  have hat:=fun h=>g_at n xs (x - w0) h hg (by omega) (by omega)
  generalize (x - w0).tmod (sumL xs)=rr at *
  generalize posF xs rr=p at *
  (repeat (first|refine gO rfl ?_|((refine gR fun K1 hK1=>?_;simp only [go_sem,↓reduceIte,reduceCtorEq,nA,nB,nC,nD,nE,nF,hp2]<;>and_intros<;>(apply hK1;clear hK1 K1)))))
  refine awp_cond (t:=_) rfl (fun _=>?_) (fun h9=>by cases h9)
  (repeat (((first|refine gR ?_|((with_reducible refine xS ?_);refine uD 1 zM40 zP1UE zP1UP 108 rfl (by kernel_rfl) ?_))<;>((try with_reducible intro K1 hK1);simp only [go_sem,↓reduceIte,reduceCtorEq,nA,nB,nC,nD,nE,nF,hp2]<;>and_intros<;>first|(apply hK1;clear hK1 K1)|(intros;(omega))|skip))))
  refine (hat h).mono ?_;rintro _ hz ⟨rfl,hh⟩;apply hK1;clear hK1 K1;rw [hh];clear hh hz
  generalize (xs.getD p default).1=nm at gq
  (repeat (first|refine gO rfl ?_|((first|refine gR ?_|(with_reducible refine wM ?_ ?_))<;>((try with_reducible intro K1 hK1);simp only [go_sem,↓reduceIte,reduceCtorEq,nA,nB,nC,nD,nE,nF,hp2,Int.toNat_natCast,gq,q1,List.length_map]<;>and_intros<;>first|(apply hK1;clear hK1 K1)|(intros;(omega))))))
  simp only [Tryz.results275,go_sem,↓reduceIte,reduceCtorEq,nA,nB,nC,nD,nE,nF]
  exact ⟨_,_,Weak.refl _,Hp.le.refl _,rfl,by rw [hgo];rfl⟩
structure StP (xs:List (ByteArray × Int)) (w0 m:Int) (s:Nat × Int) (half:Bool) (q:Nat × Int):Prop where
 lt:s.1 < xs.length
 wf:WfS xs q
 eq:∀ x,goOnH xs w0 m s half x=goOnF xs w0 m q x
theorem StP.first {xs:List (ByteArray × Int)} (hp:Pos xs) (hn:xs≠[]) (w0 m:Int) (r:Int):StP xs w0 m (0,r) false (0,longA xs 0):=by
 refine ⟨List.length_pos_iff.2 hn,wf_first hp hn,fun x=>?_⟩
 unfold goOnH goOnF
 by_cases h4:m=4
 ·simp [h4]
 ·simp [h4]
theorem StP.of {xs:List (ByteArray × Int)} {w0 m:Int} {s:Nat × Int} {half:Bool} (h:WfS xs s) (hh:half=decide (s.2 < longA xs s.1)):StP xs w0 m s half s:=⟨h.lt,h,fun x=>goOnH_eq h (.inr hh) x⟩
theorem StP.any {xs:List (ByteArray × Int)} (hp:Pos xs) (hn:xs≠[]) (w0 m:Int) {s:Nat × Int} (half:Bool) (h:WfS xs s):∃ q,StP xs w0 m s half q:=by
 have hl:WfS xs (s.1,longA xs s.1):=⟨h.lt,(longA_bd hp h.lt).1,Int.le_refl _⟩
 by_cases h4:m=4
 ·exact ⟨s,h.lt,h,fun x=>by simp [goOnH,goOnF,h4]⟩
 ·by_cases h1:half=true∧m=3
  ·exact ⟨nextA xs s.1,h.lt,wf_next hp hn _,fun x=>by simp [goOnH,goOnF,h1,nextA]⟩
  ·by_cases h2:half=false∨m=2
   ·exact ⟨_,h.lt,hl,fun x=>by simp [goOnH,goOnF,h4,h1,h2]⟩
   ·refine ⟨s,h.lt,h,fun x=>?_⟩
    simp only [not_or] at h2
    have h3:m≠3:=fun e=>h1 ⟨by cases half<;>simp_all,e⟩
    simp [goOnH,goOnF,h4,h2,h3]
abbrev zP1WE:List Nat:=[0,1,2,3,4,5,6,7,8,9,12,13]
abbrev zP1WP:List (Nat × List Nat × List Nat):=[(10,[4],[11,14,15]),(16,[],[17,18]),(19,[],[])]
abbrev zP1XE:List Nat:=[0,1,2,3,4,5,6,7,8,9,10,11,12,13,14]
abbrev zP1XP:List (Nat × List Nat × List Nat):=[(15,[],[])]
attribute [go_sem] zP1WE zP1WP zP1XE zP1XP
structure GapR (xs:List (ByteArray × Int)) (m:Int) (A B:List Pl) (G:List Pl × (Nat × Int)) (A':List Pl) (s':Nat × Int) (half':Bool):Prop where
 ex:∃ R,A'++R=A++G.1∧((R=[]∧s'=G.2∧half'=decide (s'.2 < longA xs s'.1))∨3000 < A'.length+B.length)
 len:A'.length+B.length≤max 3001 (A.length+B.length)
 wf:WfS xs s'
theorem g_gap (n:Int) (xs:List (ByteArray × Int)) (w0 w1 m:Int) (A B:List Pl) (ka kb:Nat) (s:Nat × Int) (half:Bool) (i:Nat) (h:Hp) (hp:h.H i=some (.cells (plC n xs w0 w1 m A B ka kb s half))) (ht:h.T ka=some (.tail A.length)) (hg:GoodS xs) {q0:Nat × Int} (hs:StP xs w0 m s half q0)
  (hm:m=1∨m=2∨m=3∨m=4) (a b:Int) (hw:0≤w0∧w0≤a∧a < b∧b≤1000000000000) (hl:A.length+B.length≤3999) :
  ACalls Tryz.prog 218 [.ptr i 0,.v (.int .i64 a),.v (.int .i64 b)] h (fun r h'=>r=.tup []∧∃ A' s' half',GapR xs m A B (gapF xs (goOnF xs w0 m q0 a) a b) A' s' half' ∧
   h'=⟨upd h.H i (some (.cells (plC n xs w0 w1 m A' B ka kb s' half'))),upd h.T ka (some (.tail A'.length))⟩):=by
 have hx0:=List.length_pos_iff.2 hg.ne
 have hgl:=hg.len
 have hwf:=wf_goOn hg.pos hg.ne (w0:=w0) (m:=m) hs.wf (at_:=a) hw.2.1
 have hne:((xs.length:Int)=0)=False:=by have:=hg.ne;simp [this]
 have hu:∀ X Y:Option AO,upd (upd h.H i X) i Y=upd h.H i Y:=fun X Y=>upd_upd _ _ _ _
 have hv:∀ X Y:Option TO,upd (upd h.T ka X) ka Y=upd h.T ka Y:=fun X Y=>upd_upd _ _ _ _
 have hT0:upd h.T ka (some (TO.tail A.length))=h.T:=by
  funext j
  by_cases e:j=ka
  ·rw [e,upd_same,ht]
  ·rw [upd_other _ _ e]
 have hgo:=g_goOnA n xs w0 w1 m A B ka kb s half i h hp hg hs.lt hm a ⟨hw.1,hw.2.1,by omega⟩
 rw [hs.eq a] at hgo
 generalize goOnF xs w0 m q0 a=s1 at *
 generalize hG:gapF xs s1 a b=G
 have hd0:decide (b≤a)=false:=by simp only [decide_eq_false_iff_not];omega
 refine gE Tryz.func218 rfl (by kernel_rfl) 94 rfl fun c=>?_
 (repeat (first|refine gO rfl ?_|((refine gR fun K1 hK1=>?_;simp only [go_sem,↓reduceIte,reduceCtorEq,nA,nB,nC,nD,nE,nF,hd0]<;>and_intros<;>(apply hK1;clear hK1 K1)))))
 refine awp_cond (t:=_) rfl (fun h9=>by cases h9) (fun _=>?_)
 (repeat (first|refine gO rfl ?_|((refine gR fun K1 hK1=>?_;simp only [go_sem,↓reduceIte,reduceCtorEq,nA,nB,nC,nD,nE,nF]<;>and_intros))))
 refine hgo.mono ?_;rintro _ hz ⟨rfl,hh⟩;apply hK1;clear hK1 K1;rw [hh];clear hh hz
 clear hgo
 (repeat ((refine gO rfl ?_)))
 refine awp_loopC (rl false [0,3,94]) 0 (fun g s=>∃ (a2:Int) (s2:Nat × Int) (V:List Pl) (hf:Bool),g=(b - a2).toNat∧WfS xs s2∧(a≤a2∧a2≤b)∧(a2=a∨hf=decide (s2.2 < longA xs s2.1))∧V.length+B.length≤max 3001 (A.length+B.length)∧V++(gapF xs s2 a2 b).1=A++G.1∧(gapF xs s2 a2 b).2=G.2 ∧
  s=⟨((.ptr i 0) :: (.v (.int .i64 a2)) :: (.v (.int .i64 b)) :: (jnk 94 [])),[],⟨upd h.H i (some (.cells (plC n xs w0 w1 m V B ka kb s2 hf))),upd h.T ka (some (.tail V.length))⟩⟩) (b - a).toNat ⟨a,s1,A,false,rfl,hwf,by omega,.inl rfl,by omega,by rw [hG],by rw [hG],?_⟩ ?_
 ·rw [hT0];rfl
 rintro g _ ⟨a2,s2,V,hf,hg2,hs2,ha2,hhf,hVl,HV,HG,rfl⟩
 have hH:∀ X:Option AO,upd h.H i X i=X:=fun X=>upd_same _ _ _
 have hT:∀ X:Option TO,upd h.T ka X ka=X:=fun X=>upd_same _ _ _
 have hlv:(V.map encP).length=V.length:=List.length_map _
 by_cases hab:a2 < b
 ·have hd1:decide (a2 < b)=true:=by simpa using hab
  (repeat (first|refine gO rfl ?_|((refine gR fun K1 hK1=>?_;simp only [go_sem,↓reduceIte,reduceCtorEq,nA,nB,nC,nD,nE,nF,hd1]<;>and_intros<;>first|(intros;(simp_all<;>omega))|skip))))
  refine (g_full n xs w0 w1 m V B ka kb s2 hf i _ (upd_same _ _ _) (by omega) (by omega)).mono ?_;rintro _ hz ⟨rfl,hh⟩;refine ⟨rfl,hK1 _ ?_⟩;clear hK1 K1;rw [hh];clear hh hz
  have hf0:decide (3000 < V.length+B.length)=true∨decide (3000 < V.length+B.length)=false:=by cases decide (3000 < V.length+B.length)<;>simp
  rcases hf0 with hf1|hf1
  ·have hfl:3000 < V.length+B.length:=by simpa using hf1
   rw [hf1]
   (repeat (first|refine gO rfl ?_|((refine gR fun K1 hK1=>?_;simp only [go_sem,↓reduceIte,reduceCtorEq,nA,nB,nC,nD,nE,nF]<;>and_intros<;>(apply hK1;clear hK1 K1)))))
   refine awp_cond (t:=_) rfl (fun h9=>by cases h9) (fun _=>?_)
   (repeat ((refine gO rfl ?_)))
   simp only [Tryz.results218,go_sem,↓reduceIte,reduceCtorEq,nA,nB,nC,nD,nE,nF]
   exact ⟨_,_,Weak.refl _,Hp.le.refl _,rfl,V,s2,hf,⟨⟨_,HV,.inr hfl⟩,hVl,hs2⟩,rfl⟩
  ·have hfl:¬ 3000 < V.length+B.length:=by simpa using hf1
   rw [hf1]
   have hql:=hs2.lt
   have hqe:=hs2.le
   have hqp:=hs2.pos
   have hqb:=(longA_bd hg.pos hql).2
   have er:((s2.1:Int)+1).tmod (xs.length:Int)=(((s2.1+1) % xs.length:Nat):Int):=rfl
   have hml:=Nat.mod_lt (s2.1+1) hx0
   have ems:s2.1 % xs.length=s2.1:=Nat.mod_eq_of_lt hql
   have hst:=g_stepP n xs w0 w1 m V B ka kb s2 hf i ⟨upd h.H i (some (.cells (plC n xs w0 w1 m V B ka kb s2 hf))),upd h.T ka (some (.tail V.length))⟩ (upd_same _ _ _) hg s2.1 (by omega)
   rw [ems] at hst
   have hwb:=wf_behind hg.pos hg.ne hs2 (d:=min s2.2 (b - a2)) (by omega)
   rw [gapF_step hg.pos hg.ne hs2 hab] at HV HG
   simp only at HV HG
   obtain ⟨d,hd⟩:∃ d,d=min s2.2 (b - a2):=⟨_,rfl⟩
   rw [← hd] at HV HG hwb
   have hd3:1≤d∧d≤s2.2∧a2+d≤b:=by omega
   have hbh:behind xs s2 d=if 0 < s2.2 - d then (s2.1,s2.2 - d) else nextA xs s2.1:=rfl
   have hmn:min s2.2 (b - a2)=d:=hd.symm
   clear hd ems
   generalize xs.getD s2.1 default=x at *
   unfold plC at hst ⊢
   (repeat (first|refine gO rfl ?_|((refine gR fun K1 hK1=>?_;simp only [go_sem,↓reduceIte,reduceCtorEq,nA,nB,nC,nD,nE,nF]<;>and_intros<;>(apply hK1;clear hK1 K1)))))
   refine awp_cond (t:=_) rfl (fun _=>?_) (fun h9=>by cases h9)
   (repeat (first|refine gO rfl ?_|((first|refine gR ?_|((with_reducible refine xS ?_);refine uD 4 zM40 zP1WE zP1WP 97 rfl (by kernel_rfl) ?_))<;>((try with_reducible intro K1 hK1);simp only [go_sem,↓reduceIte,reduceCtorEq,nA,nB,nC,nD,nE,nF,hH,hT,hmn,hlv]<;>and_intros<;>first|(apply hK1;clear hK1 K1)|(intros;(omega))|skip))))
   refine hst.mono ?_;rintro _ hz ⟨rfl,hh⟩;apply hK1;clear hK1 K1;rw [hh];clear hh hz
   (repeat (first|refine gO rfl ?_|((first|refine gR ?_|(with_reducible refine wM ?_ ?_))<;>((try with_reducible intro K1 hK1);simp only [go_sem,↓reduceIte,reduceCtorEq,nA,nB,nC,nD,nE,nF,hH,hT,hu,hv,hlv,encStep]<;>and_intros<;>first|(apply hK1;clear hK1 K1)|(intros;first|omega|decide|(simp_all<;>omega))))))
   by_cases h5:0 < s2.2 - d
   ·have hd5:decide (0 < s2.2 - d)=true:=by simpa using h5
    rw [if_pos h5] at hbh
    rw [hbh] at HV HG hwb
    rw [hd5]
    refine awp_cond (t:=_) rfl (fun h9=>by cases h9) (fun _=>?_)
    (repeat ((refine gO rfl ?_)))
    refine ⟨(b - (a2+d)).toNat,by omega,a2+d,(s2.1,s2.2 - d),V++[(x.1,a2,d)],true,rfl,hwb,by omega,.inr ?_,by rw [List.length_append,List.length_singleton];omega,by rw [List.append_assoc];exact HV,HG,?_⟩
    ·symm;simp only [decide_eq_true_eq];omega
    ·rw [List.map_append,List.length_append];rfl
   ·have hd5:decide (0 < s2.2 - d)=false:=by simpa using h5
    rw [if_neg h5] at hbh
    rw [hbh] at HV HG hwb
    rw [hd5]
    refine awp_cond (t:=_) rfl (fun _=>?_) (fun h9=>by cases h9)
    have hst2:=g_stepP n xs w0 w1 m (V++[(x.1,a2,d)]) B ka kb ((s2.1+1) % xs.length,s2.2 - d) false i ⟨upd h.H i (some (.cells (plC n xs w0 w1 m (V++[(x.1,a2,d)]) B ka kb ((s2.1+1) % xs.length,s2.2 - d) false))),upd h.T ka (some (.tail (V.length+1)))⟩ (upd_same _ _ _) hg ((s2.1+1) % xs.length) (by omega)
    rw [Nat.mod_mod] at hst2
    simp only [plC,List.map_append,List.map_cons,List.map_nil,encP] at hst2
    (repeat (first|refine gO rfl ?_|((first|refine gR ?_|(with_reducible refine wM ?_ ?_)|((with_reducible refine xS ?_);refine uD 9 zM40 zP1XE zP1XP 97 rfl (by kernel_rfl) ?_))<;>((try with_reducible intro K1 hK1);simp only [go_sem,↓reduceIte,reduceCtorEq,nA,nB,nC,nD,nE,nF,hH,hu,hne,er,List.length_map]<;>and_intros<;>first|(apply hK1;clear hK1 K1)|(intros;(omega))|skip))))
    refine hst2.mono ?_;rintro _ hz ⟨rfl,hh⟩;apply hK1;clear hK1 K1;rw [hh];clear hh hz
    (repeat (first|refine gO rfl ?_|((refine gR fun K1 hK1=>?_;simp only [go_sem,↓reduceIte,reduceCtorEq,nA,nB,nC,nD,nE,nF,hH,hu,encStep]<;>and_intros<;>(apply hK1;clear hK1 K1)))))
    refine ⟨(b - (a2+d)).toNat,by omega,a2+d,nextA xs s2.1,V++[(x.1,a2,d)],false,rfl,hwb,by omega,.inr ?_,by rw [List.length_append,List.length_singleton];omega,by rw [List.append_assoc];exact HV,HG,?_⟩
    ·symm;simp only [decide_eq_false_iff_not];exact Int.lt_irrefl _
    ·rw [List.map_append,List.length_append];rfl
 ·have hd1:decide (a2 < b)=false:=by simpa using hab
  obtain rfl:a2=b:=by omega
  rw [gapF_stop xs s2 (Int.le_refl _)] at HV HG
  simp only [List.append_nil] at HV HG
  (repeat (first|refine gO rfl ?_|((refine gR fun K1 hK1=>?_;simp only [go_sem,↓reduceIte,reduceCtorEq,nA,nB,nC,nD,nE,nF,hd1]<;>and_intros<;>first|(apply hK1;clear hK1 K1)|skip))))
  refine ⟨.v (.bool true),rfl,hK1 _ ?_⟩;clear hK1 K1
  (repeat ((refine gO rfl ?_)))
  refine awp_cond (t:=_) rfl (fun h9=>by cases h9) (fun _=>?_)
  (repeat ((refine gO rfl ?_)))
  simp only [Tryz.results218,go_sem,↓reduceIte,reduceCtorEq,nA,nB,nC,nD,nE,nF]
  exact ⟨_,_,Weak.refl _,Hp.le.refl _,rfl,V,s2,hf,⟨⟨[],by rw [List.append_nil];exact HV,.inl ⟨rfl,HG,hhf.resolve_left (by omega)⟩⟩,hVl,hs2⟩,rfl⟩
theorem g_gapE (i:Nat) (h:Hp) (a b:Int) (hab:b≤a):ACalls Tryz.prog 218 [.ptr i 0,.v (.int .i64 a),.v (.int .i64 b)] h (fun r h'=>r=.tup []∧h'=h):=by
 have hd0:decide (b≤a)=true:=by simpa using hab
 refine gE Tryz.func218 rfl (by kernel_rfl) 94 rfl fun c=>?_
 (repeat (first|refine gO rfl ?_|((refine gR fun K1 hK1=>?_;simp only [go_sem,↓reduceIte,reduceCtorEq,nA,nB,nC,nD,nE,nF,hd0]<;>and_intros<;>(apply hK1;clear hK1 K1)))))
 refine awp_cond (t:=_) rfl (fun _=>?_) (fun h9=>by cases h9)
 (repeat ((refine gO rfl ?_)))
 simp only [Tryz.results218,go_sem,↓reduceIte,reduceCtorEq,nA,nB,nC,nD,nE,nF]
 exact ⟨_,_,Weak.refl _,Hp.le.refl _,rfl,rfl⟩
abbrev zP1YE:List Nat:=[0,1,2,3,4,5,6,7,8,9,10,11,12,13,14,15,16,17,18,19]
abbrev zP1YP:List (Nat × List Nat × List Nat):=[]
abbrev zP1ZE:List Nat:=[0,1,2,3,4,5,6,7,8,9,10,11,12]
abbrev zP1ZP:List (Nat × List Nat × List Nat):=[(13,[],[14,15]),(16,[],[])]
attribute [go_sem] zP1YE zP1YP zP1ZE zP1ZP
structure PlH (h0 h:Hp) (i ka kb:Nat) (n:Int) (xs:List (ByteArray × Int)) (w0 w1 m:Int) (A B:List Pl) (s:Nat × Int) (half:Bool):Prop where
 p:h.H i=some (.cells (plC n xs w0 w1 m A B ka kb s half))
 a:h.T ka=some (.tail A.length)
 b:h.T kb=some (.tail B.length)
 o:∀ j,j≠i→h.H j=h0.H j
theorem PlH.own {h0 h:Hp} {i ka kb:Nat} {n:Int} {xs:List (ByteArray × Int)} {w0 w1 m:Int} {A B A':List Pl} {s s':Nat × Int} {half half':Bool} (H:PlH h0 h i ka kb n xs w0 w1 m A B s half) (hk:ka≠kb) :
  PlH h0 ⟨upd h.H i (some (.cells (plC n xs w0 w1 m A' B ka kb s' half'))),upd h.T ka (some (.tail A'.length))⟩ i ka kb n xs w0 w1 m A' B s' half' :=
 ⟨upd_same _ _ _,upd_same _ _ _,(upd_other _ _ (Ne.symm hk)).trans H.b,fun j hj=>(upd_other _ _ hj).trans (H.o j hj)⟩
theorem PlH.same {h0 h:Hp} {i ka kb:Nat} {n:Int} {xs:List (ByteArray × Int)} {w0 w1 m:Int} {A B:List Pl} {s s':Nat × Int} {half half':Bool} (H:PlH h0 h i ka kb n xs w0 w1 m A B s half) :
  PlH h0 ⟨upd h.H i (some (.cells (plC n xs w0 w1 m A B ka kb s' half'))),h.T⟩ i ka kb n xs w0 w1 m A B s' half' :=
 ⟨upd_same _ _ _,H.a,H.b,fun j hj=>(upd_other _ _ hj).trans (H.o j hj)⟩
theorem g_gapAny (h0:Hp) (n:Int) (xs:List (ByteArray × Int)) (w0 w1 m:Int) (A B:List Pl) (ka kb:Nat) (s:Nat × Int) (half:Bool) (i:Nat) (h:Hp) (H:PlH h0 h i ka kb n xs w0 w1 m A B s half) (hk:ka≠kb) (hg:GoodS xs) {q:Nat × Int} (hs:StP xs w0 m s half q)
  (hm:m=1∨m=2∨m=3∨m=4) (a b:Int) (hw:0≤w0∧w0≤a∧a≤b∧b≤1000000000000) (hl:A.length+B.length≤3999) :
  ACalls Tryz.prog 218 [.ptr i 0,.v (.int .i64 a),.v (.int .i64 b)] h (fun r h'=>r=.tup []∧∃ A' s' half' q',PlH h0 h' i ka kb n xs w0 w1 m A' B s' half'∧StP xs w0 m s' half' q'∧A'.length+B.length≤max 3001 (A.length+B.length) ∧
   ((A'=A++(gapF xs (goOnF xs w0 m q a) a b).1∧(∀ x,b≤x→goOnF xs w0 m q' x=goOnF xs w0 m (gapF xs (goOnF xs w0 m q a) a b).2 x))∨(3000 < A'.length+B.length∧∃ R,A'++R=A++(gapF xs (goOnF xs w0 m q a) a b).1))):=by
 by_cases hab:a < b
 ·refine (g_gap n xs w0 w1 m A B ka kb s half i h H.p H.a hg hs hm a b ⟨hw.1,hw.2.1,hab,hw.2.2.2⟩ hl).mono ?_
  rintro r h' ⟨e,A',s',half',hG,rfl⟩
  obtain ⟨R,hR,hc⟩:=hG.ex
  rcases hc with ⟨rfl,e2,e3⟩|hf
  ·rw [List.append_nil] at hR
   exact ⟨e,A',s',half',s',H.own hk,StP.of hG.wf e3,hG.len,.inl ⟨hR,fun x _=>by rw [e2]⟩⟩
  ·obtain ⟨q',hq'⟩:=StP.any hg.pos hg.ne w0 m half' hG.wf
   exact ⟨e,A',s',half',q',H.own hk,hq',hG.len,.inr ⟨hf,R,hR⟩⟩
 ·refine (g_gapE i h a b (by omega)).mono ?_
  rintro r h' ⟨e,rfl⟩
  refine ⟨e,A,s,half,q,H,hs,by omega,.inl ⟨?_,fun x _=>?_⟩⟩
  ·rw [gapF_stop xs _ (by omega),List.append_nil]
  ·rw [gapF_stop xs _ (by omega),goOn_twice]
theorem Row.back:∀ {cs:List Pl} {x y w1:Int},Row cs x w1→y≤x→Row cs y w1
 | [],x,y,w1,h,hy=>Int.le_trans hy h
 | c :: cs,x,y,w1,h,hy=>⟨Int.le_trans hy h.1,h.2⟩
def RunI (xs:List (ByteArray × Int)) (w0 w1 m:Int) (U:List (Pl × Bool)) (cs:List Pl) (q:Nat × Int) (at_:Int) (A B:List Pl):Prop :=
 (∃ V,V++runE xs w0 w1 m cs (goOnF xs w0 m q at_) at_=U∧A=ownF V∧B=brkF V)∨(3000 < A.length+B.length∧3000 < U.length)
theorem g_run (n:Int) (xs:List (ByteArray × Int)) (w0 w1 m:Int) (ka kb:Nat) (bs:List Wn) (i:Nat) (h:Hp) (H:PlH h h i ka kb n xs w0 w1 m [] [] (0,0) false) (hk:ka≠kb) (hg:GoodS xs)
  (hm:m=1∨m=2∨m=3∨m=4) (hw:0≤w0∧w0≤w1∧w1≤345686400000) (hbl:bs.length≤500) (hb:Brk bs 0) {U:List (Pl × Bool)} (hU:runE xs w0 w1 m (cutF w0 w1 bs) (0,longA xs 0) w0=U) :
  ACalls Tryz.prog 154 [.ptr i 0,.row 3 (bs.map encW) none] h (fun r h'=>r=.tup []∧∃ A B s half,PlH h h' i ka kb n xs w0 w1 m A B s half∧A.length+B.length≤4000∧((A=ownF U∧B=brkF U)∨(3000 < A.length+B.length∧3000 < U.length))):=by
 have hx0:=List.length_pos_iff.2 hg.ne
 have hgl:=hg.len
 have hp0:=H.p
 unfold plC at hp0
 refine gE Tryz.func154 rfl (by kernel_rfl) 73 rfl fun c=>?_
 (repeat (first|refine gO rfl ?_|((refine gM zM42 fun K1 hK1=>?_;simp only [go_sem,↓reduceIte,reduceCtorEq,nA,nB,nC,nD,nE,nF,hp0,List.length_map]<;>and_intros<;>(apply hK1;clear hK1 K1)))))
 clear hp0
 refine awp_loopC (rl false [0,1,3,1,9,3,58]) 0 (fun g s=>∃ (j:Nat) (at1:Int) (A B:List Pl) (s1 q:Nat × Int) (half:Bool) (h3:Hp),g+j=bs.length∧PlH h h3 i ka kb n xs w0 w1 m A B s1 half∧StP xs w0 m s1 half q∧(w0≤at1∧at1≤w1)∧Row (cutF w0 w1 (bs.drop j)) at1 w1∧A.length+B.length≤3002∧RunI xs w0 w1 m U (cutF w0 w1 (bs.drop j)) q at1 A B ∧
  s=⟨((.ptr i 0) :: (jnk 3 ((.v (.int .i64 at1)) :: (jnk 9 ((.row 3 (bs.map encW) none) :: (.v (.int .i64 bs.length)) :: (.v (.int .i64 j)) :: (jnk 58 [])))))),[],h3⟩) bs.length
  ⟨0,w0,[],[],(0,0),(0,longA xs 0),false,h,by omega,H,StP.first hg.pos hg.ne _ _ _,by omega,row_cut hb hw.2.1 (by omega),by simp,.inl ⟨[],by rw [goOn_first hg.pos hg.ne];exact hU,rfl,rfl⟩,rfl⟩ ?_
 clear H
 rintro g _ ⟨j,at1,A,B,s1,q,half,h3,hj,H,hs,ha,hr,hl,hI,rfl⟩
 (repeat (first|refine gO rfl ?_|((refine gM zM42 fun K1 hK1=>?_;simp only [go_sem,↓reduceIte,reduceCtorEq,nA,nB,nC,nD,nE,nF]<;>and_intros<;>(apply hK1;clear hK1 K1)))))
 refine awp_cond (t:=_) rfl (fun h1=>?_) (fun h1=>?_)
 ·simp only [decide_eq_true_eq] at h1
  have hjl:j < bs.length:=by omega
  have gx:(bs.map encW).getD j []=[.v (.string (bs.getD j default).1),.v (.int .i64 (bs.getD j default).2.1),.v (.int .i64 (bs.getD j default).2.2)]:=getD_enc encW bs j default hjl
  rw [drop_at bs j default hjl,cutF_cons] at hr hI
  generalize bs.getD j default=x at gx hr hI
  have hp:=H.p
  unfold plC at hp
  by_cases hft:max x.2.1 w0 < min x.2.2 w1
  ·rw [if_pos hft] at hr hI
   have hd0:decide (min x.2.2 w1≤max x.2.1 w0)=false:=by simp only [decide_eq_false_iff_not];omega
   (repeat (first|refine gO rfl ?_|((first|refine gM zM42 ?_|((with_reducible refine xS ?_);refine uD 4 zM42 zP1YE zP1YP 75 rfl (by kernel_rfl) ?_))<;>((try with_reducible intro K1 hK1);simp only [go_sem,↓reduceIte,reduceCtorEq,nA,nB,nC,nD,nE,nF,Int.toNat_natCast,gx,hp,hd0]<;>and_intros<;>first|(apply hK1;clear hK1 K1)|(intros;first|omega|(simp_all<;>omega))|skip))))
   refine (g_full n xs w0 w1 m A B ka kb s1 half i h3 H.p (by omega) (by omega)).mono ?_;rintro _ hz ⟨rfl,hh⟩;refine ⟨rfl,hK1 _ ?_⟩;clear hK1 K1;rw [hh];clear hh hz
   have hf0:decide (3000 < A.length+B.length)=true∨decide (3000 < A.length+B.length)=false:=by cases decide (3000 < A.length+B.length)<;>simp
   rcases hf0 with hf1|hf1
   ·rw [hf1]
    have hfl:3000 < A.length+B.length:=by simpa using hf1
    (repeat (first|refine gO rfl ?_|((refine gM zM42 fun K1 hK1=>?_;simp only [go_sem,↓reduceIte,reduceCtorEq,nA,nB,nC,nD,nE,nF]<;>and_intros<;>(apply hK1;clear hK1 K1)))))
    refine awp_cond (t:=_) rfl (fun _=>?_) (fun h9=>by cases h9)
    (repeat (first|refine gO rfl ?_|((refine gM zM42 fun K1 hK1=>?_;simp only [go_sem,↓reduceIte,reduceCtorEq,nA,nB,nC,nD,nE,nF]<;>and_intros<;>first|(apply hK1;clear hK1 K1)|(intros;(omega))))))
    have f2:3000 < U.length:=by
     rcases hI with ⟨V,hV,e1,e2⟩|⟨_,f2⟩
     ·have e3:=ownF_len V
      have e4:=congrArg List.length hV
      rw [List.length_append] at e4
      rw [e1,e2] at hfl
      omega
     ·exact f2
    have r2:max x.2.1 w0 < min x.2.2 w1:=hft
    have r1:at1≤max x.2.1 w0:=hr.1
    have r3:Row (cutF w0 w1 (bs.drop (j+1))) (min x.2.2 w1) w1:=hr.2.2
    exact ⟨g - 1,by omega,j+1,at1,A,B,s1,q,half,h3,by omega,H,hs,ha,r3.back (by omega),hl,.inr ⟨hfl,f2⟩,rfl⟩
   ·rw [hf1]
    have hfl:¬ 3000 < A.length+B.length:=by simpa using hf1
    (repeat (first|refine gO rfl ?_|((refine gM zM42 fun K1 hK1=>?_;simp only [go_sem,↓reduceIte,reduceCtorEq,nA,nB,nC,nD,nE,nF]<;>and_intros<;>(apply hK1;clear hK1 K1)))))
    refine awp_cond (t:=_) rfl (fun h9=>by cases h9) (fun _=>?_)
    (repeat (first|refine gO rfl ?_|((refine gM zM42 fun K1 hK1=>?_;simp only [go_sem,↓reduceIte,reduceCtorEq,nA,nB,nC,nD,nE,nF]<;>and_intros))))
    have r1:at1≤max x.2.1 w0:=hr.1
    have r3:Row (cutF w0 w1 (bs.drop (j+1))) (min x.2.2 w1) w1:=hr.2.2
    refine (g_gapAny h n xs w0 w1 m A B ka kb s1 half i h3 H hk hg hs hm at1 (max x.2.1 w0) ⟨hw.1,ha.1,r1,by omega⟩ (by omega)).mono ?_
    rintro _ h4 ⟨rfl,A',s',half',q',H',hs',hl',hc⟩
    refine hK1 _ ?_;clear hK1 K1
    have hp':=H'.p
    have hb':=H'.b
    have hlb':(B.map encP).length=B.length:=List.length_map _
    unfold plC at hp'
    (repeat (first|refine gO rfl ?_|((first|refine gM zM42 ?_|(with_reducible refine wM ?_ ?_)|((with_reducible refine xS ?_);refine uD 7 zM42 zP1ZE zP1ZP 75 rfl (by kernel_rfl) ?_))<;>((try with_reducible intro K1 hK1);simp only [go_sem,↓reduceIte,reduceCtorEq,nA,nB,nC,nD,nE,nF,hp',hb',hlb']<;>and_intros<;>first|(apply hK1;clear hK1 K1)|(intros;first|omega|decide)))))
    have hH5:PlH h ⟨upd h4.H i (some (.cells (plC n xs w0 w1 m A' (B++[(x.1,max x.2.1 w0,min x.2.2 w1 - max x.2.1 w0)]) ka kb s' half'))),upd h4.T kb (some (.tail (B.length+1)))⟩ i ka kb n xs w0 w1 m A' (B++[(x.1,max x.2.1 w0,min x.2.2 w1 - max x.2.1 w0)]) s' half' :=
     ⟨upd_same _ _ _,(upd_other _ _ hk).trans H'.a,by rw [List.length_append];exact upd_same _ _ _,fun k hk2=>(upd_other _ _ hk2).trans (H'.o k hk2)⟩
    refine ⟨g - 1,by omega,j+1,min x.2.2 w1,A',B++[(x.1,max x.2.1 w0,min x.2.2 w1 - max x.2.1 w0)],s',q',half',_,by omega,hH5,hs',by omega,r3,by rw [List.length_append,List.length_singleton];omega,?_,?_⟩
    ·rcases hI with ⟨V,hV,e1,e2⟩|⟨f1,_⟩
     ·have hVe:V++(tagF (gapF xs (goOnF xs w0 m q at1) at1 (max x.2.1 w0)).1++((x.1,max x.2.1 w0,min x.2.2 w1 - max x.2.1 w0),true) :: runE xs w0 w1 m (cutF w0 w1 (bs.drop (j+1))) (goOnF xs w0 m (gapF xs (goOnF xs w0 m q at1) at1 (max x.2.1 w0)).2 (min x.2.2 w1)) (min x.2.2 w1))=U:=hV
      rcases hc with ⟨c1,c2⟩|⟨f3,R,hR⟩
      ·refine .inl ⟨V++(tagF (gapF xs (goOnF xs w0 m q at1) at1 (max x.2.1 w0)).1++[((x.1,max x.2.1 w0,min x.2.2 w1 - max x.2.1 w0),true)]),?_,?_,?_⟩
       ·rw [← hVe,c2 _ (by omega),List.append_assoc,List.append_assoc];rfl
       ·rw [ownF_app,ownF_app,(ownF_tag _).1,c1,e1];simp [ownF]
       ·rw [brkF_app,brkF_app,(ownF_tag _).2,e2];simp [brkF]
      ·refine .inr ⟨by rw [List.length_append];omega,?_⟩
       have g1:=congrArg List.length hR
       have g2:=congrArg List.length hVe
       have g3:=ownF_len V
       simp only [List.length_append,tagF,List.length_map,List.length_cons] at g1 g2
       rw [e1] at g1
       rw [e2] at f3
       omega
     ·exact absurd f1 hfl
    ·rw [plC,List.map_append];rfl
  ·rw [if_neg hft] at hr hI
   have hd0:decide (min x.2.2 w1≤max x.2.1 w0)=true:=by simp only [decide_eq_true_eq];omega
   (repeat (first|refine gO rfl ?_|((first|refine gM zM42 ?_|((with_reducible refine xS ?_);refine uD 4 zM42 zP1YE zP1YP 75 rfl (by kernel_rfl) ?_))<;>((try with_reducible intro K1 hK1);simp only [go_sem,↓reduceIte,reduceCtorEq,nA,nB,nC,nD,nE,nF,Int.toNat_natCast,gx,hp,hd0]<;>and_intros<;>first|(apply hK1;clear hK1 K1)|(intros;(omega))))))
   refine awp_cond (t:=_) rfl (fun _=>?_) (fun h9=>by cases h9)
   (repeat (first|refine gO rfl ?_|((refine gM zM42 fun K1 hK1=>?_;simp only [go_sem,↓reduceIte,reduceCtorEq,nA,nB,nC,nD,nE,nF]<;>and_intros<;>first|(apply hK1;clear hK1 K1)|(intros;(omega))))))
   exact ⟨g - 1,by omega,j+1,at1,A,B,s1,q,half,h3,by omega,H,hs,ha,hr,hl,hI,rfl⟩
 ·simp only [decide_eq_false_iff_not] at h1
  have hjl:j=bs.length:=by omega
  subst hjl
  rw [List.drop_length] at hr hI
  have hp:=H.p
  unfold plC at hp
  (repeat (first|refine gO rfl ?_|((refine gM zM42 fun K1 hK1=>?_;simp only [go_sem,↓reduceIte,reduceCtorEq,nA,nB,nC,nD,nE,nF,hp]<;>and_intros))))
  refine (g_gapAny h n xs w0 w1 m A B ka kb s1 half i h3 H hk hg hs hm at1 w1 ⟨hw.1,ha.1,ha.2,by omega⟩ (by omega)).mono ?_
  rintro _ h4 ⟨rfl,A',s',half',q',H',hs',hl',hc⟩
  refine hK1 _ ?_;clear hK1 K1
  (repeat ((refine gO rfl ?_)))
  simp only [Tryz.results154,go_sem,↓reduceIte,reduceCtorEq,nA,nB,nC,nD,nE,nF]
  refine ⟨_,_,Weak.refl _,Hp.le.refl _,rfl,A',B,s',half',H',by omega,?_⟩
  rcases hI with ⟨V,hV,rfl,rfl⟩|⟨f1,f2⟩
  ·have hVe:V++tagF (gapF xs (goOnF xs w0 m q at1) at1 w1).1=U:=hV
   rcases hc with ⟨rfl,_⟩|⟨f3,R,hR⟩
   ·refine .inl ⟨?_,?_⟩
    ·rw [← hVe,ownF_app,(ownF_tag _).1]
    ·rw [← hVe,brkF_app,(ownF_tag _).2,List.append_nil]
   ·refine .inr ⟨f3,?_⟩
    have e1:=congrArg List.length hR
    have e2:=congrArg List.length hVe
    have e3:=ownF_len V
    simp only [List.length_append,tagF,List.length_map] at e1 e2
    omega
  ·refine .inr ⟨?_,f2⟩
   rcases hc with ⟨rfl,_⟩|⟨f3,_⟩
   ·rw [List.length_append];omega
   ·exact f3
theorem ACalls.pure {P:Program} {f:Nat} {args:List AV} {R:AV→Prop} (hc:ACalls P f args ⟨fun _=>none,fun _=>none⟩ (fun r _=>R r)) (h:Hp):ACalls P f args h (fun r h'=>R r∧h'=⟨h.H,fun _=>none⟩):=by
 refine ⟨hc.ok,fun G w vs hs hl ha=>?_⟩
 have h0:Hp.le ⟨fun _=>none,fun _=>none⟩ h:=⟨fun _=>.inl rfl,fun _=>.inl rfl⟩
 refine (hc.calls G w vs (hs.less h0) hl ha).mono ?_
 rintro e w' ⟨r,h',G',v,rfl,hR,g1,f1,s1,r1⟩
 have hno:∀ b,¬ Own G ⟨fun _=>none,fun _=>none⟩ b:=by
  rintro b (⟨i,a,_⟩|⟨k,t,a,_⟩)
  ·exact a rfl
  ·exact a rfl
 have hk:=fun b hb=>f1.keep b hb (hno b)
 have hat:∀ i b,h.H i≠none→G'.at_ i=some b→G.at_ i=some b:=fun i b a c=>by
  obtain ⟨ob,hob⟩:=Option.ne_none_iff_exists'.1 a
  obtain ⟨b2,o,e1,_⟩:=hs.obj i ob hob
  have h2:=g1.at_ i b2 e1
  rw [c] at h2
  cases h2
  exact e1
 refine ⟨r,⟨h.H,fun _=>none⟩,G',v,rfl,⟨hR,rfl⟩,g1,?_,?_,r1⟩
 ·refine ⟨f1.os,f1.tape,f1.output,f1.size,fun b hb hn=>?_⟩
  obtain ⟨x,y,z⟩:=hk b hb
  refine ⟨x,?_,z⟩
  rintro (⟨i,a,c⟩|⟨k,t,a,_⟩)
  ·exact hn (.inl ⟨i,a,hat i b a c⟩)
  ·exact a rfl
 ·refine ⟨s1.val,fun i ob e=>?_,fun i j b hi hj e1 e2=>hs.inj i j b hi hj (hat i b hi e1) (hat j b hj e2),(fun k m e=>by cases e),(fun k l s t a=>absurd rfl a),(fun k i t a=>absurd rfl a),s1.fat,s1.ftl⟩
  obtain ⟨b,o,e1,e2,e3,e4⟩:=hs.obj i ob e
  have hbl:b < w.heap.size:=(Array.getElem?_eq_some_iff.1 e2).1
  obtain ⟨x,y,z⟩:=hk b hbl
  exact ⟨b,o,g1.at_ i b e1,x.trans e2,e3.mono g1,fun q=>(z q).trans (e4 q)⟩
noncomputable def plyE (d:Nat) (t:LT) (bs:List Wn) (w0 w1 m:Int):Int:=orI [faultF t,brkE bs,if m < 1∨4 < m then 4 else 0,winE w0 w1,rdE d t]
def PlyR (d:Nat) (t:LT) (bs:List Wn) (w0 w1 m:Int) (r:AV) (h':Hp):Prop :=
 (plyE d t bs w0 w1 m≠0→r=.tup [.v (.pointer none),.v (.int .i64 (plyE d t bs w0 w1 m))]) ∧
 (plyE d t bs w0 w1 m=0→∀ U,runE (rdS d t) w0 w1 m (cutF w0 w1 bs) (0,longA (rdS d t) 0) w0=U →
  (3000 < U.length→r=.tup [.v (.pointer none),.v (.int .i64 2)]) ∧
  (U.length≤3000→∃ (i ka kb:Nat) (s:Nat × Int) (half:Bool) (n:Int),r=.tup [.ptr i 0,.v (.int .i64 0)]∧h'.H i=some (.cells (plC n (rdS d t) w0 w1 m (ownF U) (brkF U) ka kb s half))))
theorem PlyR.bad {d:Nat} {t:LT} {bs:List Wn} {w0 w1 m:Int} {h':Hp} {e:Int} (h1:plyE d t bs w0 w1 m=e) (h0:e≠0):PlyR d t bs w0 w1 m (.tup [.v (.pointer none),.v (.int .i64 e)]) h' :=
 ⟨fun _=>by rw [h1],fun h=>absurd (h1.symm.trans h) h0⟩
theorem g_played (d:Nat) (t:LT) (bs:List Wn) (w0 w1 m:Int) (h:Hp) (hb:KC d t) (hd:manyF t≤1000000000000000∧d≤1000) (hbs:∀ x∈bs,WOk x) (hbl:bs.length≤1000) :
  ACalls Tryz.prog 94 [.agg (encL t),.agg [.v (.int .i64 w0),.v (.int .i64 w1)],.row 3 (bs.map encW) none,.v (.int .i64 m)] h (fun r h'=>PlyR d t bs w0 w1 m r h'):=by
 have hlen:=encL_len t
 have htk:List.take 6 (encL t)=encL t:=List.take_of_length_le (Nat.le_of_eq hlen)
 have hdk:List.drop 6 (encL t)=[]:=List.drop_of_length_le (Nat.le_of_eq hlen)
 have hck:=fun h=>g_check7 d t h hb hd
 have hbrk:=fun h=>g_brkP bs h hbs hbl
 have hgood:=fun he=>rd_good (d:=d) (t:=t) hb he
 refine gE Tryz.func94 rfl (by kernel_rfl) 52 rfl fun c=>?_
 (repeat (first|refine gO rfl ?_|(refine gM zM43 fun K1 hK1=>?_;simp only [go_sem,↓reduceIte,reduceCtorEq,nA,nB,nC,nD,nE,nF,hlen,htk,hdk]<;>and_intros<;>first|(apply hK1;clear hK1 K1)|skip)))
 refine (hck _).mono ?_;rintro _ hz ⟨rfl,hh⟩;apply hK1;clear hK1 K1;rw [hh];clear hh hz
 (repeat (first|refine gO rfl ?_|(refine gM zM43 fun K1 hK1=>?_;simp only [go_sem,↓reduceIte,reduceCtorEq,nA,nB,nC,nD,nE,nF,hlen,htk,hdk]<;>and_intros<;>(apply hK1;clear hK1 K1))))
 by_cases hf:faultF t=0
 ·have hv:=vl_of d t hb (part_of_fault hf)
  have hrp:=fun h=>(g_roundP d t ⟨fun _=>none,fun _=>none⟩ hb hv (il_of d t (part_of_fault hf))).pure h
  have hpe:plyE d t bs w0 w1 m=orI [brkE bs,if m < 1∨4 < m then 4 else 0,winE w0 w1,roundE d t]:=by rw [plyE,rdE,if_pos hf];simp [orI,hf]
  have hrs:rdS d t=roundS d t:=by rw [rdS,if_pos hf]
  unfold roundC at hrp
  rw [hf]
  refine awp_cond (t:=_) rfl (fun h9=>by cases h9) (fun _=>?_)
  (repeat (first|refine gO rfl ?_|(refine gM zM43 fun K1 hK1=>?_;simp only [go_sem,↓reduceIte,reduceCtorEq,nA,nB,nC,nD,nE,nF,hlen,htk,hdk]<;>and_intros)))
  refine (hbrk _).mono ?_;rintro _ hz ⟨rfl,hh⟩;apply hK1;clear hK1 K1;rw [hh];clear hh hz
  (repeat (first|refine gO rfl ?_|(refine gM zM43 fun K1 hK1=>?_;simp only [go_sem,↓reduceIte,reduceCtorEq,nA,nB,nC,nD,nE,nF,hlen,htk,hdk]<;>and_intros<;>(apply hK1;clear hK1 K1))))
  by_cases hk:brkE bs=0
  ·rw [hk]
   refine awp_cond (t:=_) rfl (fun h9=>by cases h9) (fun _=>?_)
   (repeat (first|refine gO rfl ?_|(refine gM zM43 fun K1 hK1=>?_;simp only [go_sem,↓reduceIte,reduceCtorEq,nA,nB,nC,nD,nE,nF,hlen,htk,hdk]<;>and_intros)))
   refine (a_outside m 1 4 _).mono ?_;rintro _ hz ⟨rfl,hh⟩;apply hK1;clear hK1 K1;rw [hh];clear hh hz
   by_cases hm:m < 1∨4 < m
   ·rw [show (decide (m < 1) || decide (4 < m))=true by simpa using hm]
    refine awp_cond (t:=_) rfl (fun _=>?_) (fun h9=>by cases h9)
    (repeat (first|refine gO rfl ?_|(refine gM zM43 fun K1 hK1=>?_;simp only [go_sem,↓reduceIte,reduceCtorEq,nA,nB,nC,nD,nE,nF]<;>and_intros<;>(apply hK1;clear hK1 K1))))
    simp only [Tryz.results94,go_sem,↓reduceIte,reduceCtorEq,nA,nB,nC,nD,nE,nF]
    exact ⟨_,_,Weak.refl _,Hp.le.refl _,PlyR.bad (e:=4) (by rw [hpe];simp [orI,hk,hm]) (by decide)⟩
   ·rw [show (decide (m < 1) || decide (4 < m))=false by simpa using hm]
    refine awp_cond (t:=_) rfl (fun h9=>by cases h9) (fun _=>?_)
    (repeat (first|refine gO rfl ?_|(refine gM zM43 fun K1 hK1=>?_;simp only [go_sem,↓reduceIte,reduceCtorEq,nA,nB,nC,nD,nE,nF,hlen,htk,hdk]<;>and_intros)))
    refine (a_outside w0 0 w1 _).mono ?_;rintro _ hz ⟨rfl,hh⟩;apply hK1;clear hK1 K1;rw [hh];clear hh hz
    have bad1:winE w0 w1=1→plyE d t bs w0 w1 m=1:=fun e=>by rw [hpe];simp [orI,hk,hm,e]
    by_cases ho:w0 < 0∨w1 < w0
    ·rw [show (decide (w0 < 0) || decide (w1 < w0))=true by simpa using ho]
     (repeat (first|refine gO rfl ?_|(refine gM zM43 fun K1 hK1=>?_;simp only [go_sem,↓reduceIte,reduceCtorEq,nA,nB,nC,nD,nE,nF]<;>and_intros<;>(apply hK1;clear hK1 K1))))
     refine awp_cond (t:=_) rfl (fun _=>?_) (fun h9=>by cases h9)
     (repeat (first|refine gO rfl ?_|(refine gM zM43 fun K1 hK1=>?_;simp only [go_sem,↓reduceIte,reduceCtorEq,nA,nB,nC,nD,nE,nF]<;>and_intros<;>(apply hK1;clear hK1 K1))))
     simp only [Tryz.results94,go_sem,↓reduceIte,reduceCtorEq,nA,nB,nC,nD,nE,nF]
     refine ⟨_,_,Weak.refl _,Hp.le.refl _,PlyR.bad (e:=1) (bad1 ?_) (by decide)⟩
     rw [winE,if_pos]
     simp
     omega
    ·rw [show (decide (w0 < 0) || decide (w1 < w0))=false by simpa using ho]
     by_cases ho2:345686400000 < w1
     ·have hd2:decide (345686400000 < w1)=true:=by simpa using ho2
      (repeat (first|refine gO rfl ?_|(refine gM zM43 fun K1 hK1=>?_;simp only [go_sem,↓reduceIte,reduceCtorEq,nA,nB,nC,nD,nE,nF,hd2]<;>and_intros<;>(apply hK1;clear hK1 K1))))
      refine awp_cond (t:=_) rfl (fun _=>?_) (fun h9=>by cases h9)
      (repeat (first|refine gO rfl ?_|(refine gM zM43 fun K1 hK1=>?_;simp only [go_sem,↓reduceIte,reduceCtorEq,nA,nB,nC,nD,nE,nF]<;>and_intros<;>(apply hK1;clear hK1 K1))))
      simp only [Tryz.results94,go_sem,↓reduceIte,reduceCtorEq,nA,nB,nC,nD,nE,nF]
      refine ⟨_,_,Weak.refl _,Hp.le.refl _,PlyR.bad (e:=1) (bad1 ?_) (by decide)⟩
      rw [winE,if_pos]
      simp
      omega
     ·have hd2:decide (345686400000 < w1)=false:=by simpa using ho2
      have hwz:winE w0 w1=0:=by
       rw [winE,if_neg]
       simp
       omega
      have hpe2:plyE d t bs w0 w1 m=roundE d t:=by
       rw [hpe]
       by_cases h9:roundE d t=0<;>simp [orI,hk,hm,hwz,h9]
      (repeat (first|refine gO rfl ?_|(refine gM zM43 fun K1 hK1=>?_;simp only [go_sem,↓reduceIte,reduceCtorEq,nA,nB,nC,nD,nE,nF,hd2,hlen,htk,hdk]<;>and_intros<;>(apply hK1;clear hK1 K1))))
      refine awp_cond (t:=_) rfl (fun h9=>by cases h9) (fun _=>?_)
      (repeat (first|refine gO rfl ?_|(refine gM zM43 fun K1 hK1=>?_;simp only [go_sem,↓reduceIte,reduceCtorEq,nA,nB,nC,nD,nE,nF,hlen,htk,hdk]<;>and_intros)))
      refine (hrp _).mono ?_
      rintro _ h2 ⟨rfl,rfl⟩
      refine hK1 _ ?_;clear hK1 K1
      have hsl:((roundS d t).map (·.2)).sum=sumL (roundS d t):=rfl
      rw [hsl]
      clear hrp hck hbrk
      obtain ⟨hbk,hbl5⟩:=brkE_ok hk
      have hre:rdE d t=roundE d t:=by rw [rdE,if_pos hf]
      unfold PlyR
      rw [hpe2]
      rw [hrs] at hgood ⊢
      rw [hre] at hgood
      clear hpe hpe2 hrs hre bad1 hwz
      generalize roundS d t=xs at *
      generalize ((roundN d t:Nat):Int)=n at *
      generalize roundE d t=e at *
      (repeat (first|refine gO rfl ?_|(refine gM zM43 fun K1 hK1=>?_;simp only [go_sem,↓reduceIte,reduceCtorEq,nA,nB,nC,nD,nE,nF]<;>and_intros<;>(apply hK1;clear hK1 K1))))
      by_cases he:e=0
      ·subst he
       have hg:=hgood rfl
       refine awp_cond (t:=_) rfl (fun h9=>by cases h9) (fun _=>?_)
       (repeat (first|refine gO rfl ?_|(refine gM zM43 fun K1 hK1=>?_;simp only [go_sem,↓reduceIte,reduceCtorEq,nA,nB,nC,nD,nE,nF]<;>and_intros)))
       intro i hi
       refine hK1 _ ?_;clear hK1 K1
       refine vRem_nil ?_
       refine awp_ownRow i 6 4 (upd_same _ _ _) rfl (fun ka hka=>?_)
       refine awp_ownRow i 7 4 (upd_same _ _ _) rfl (fun kb hkb=>?_)
       have hkk:ka≠kb:=fun e=>by
        subst e
        have h9:upd (fun _=>none) ka (some (TO.tail 0)) ka=none:=hkb
        rw [upd_same] at h9
        cases h9
       simp only [upd_upd,List.set_cons_succ,List.set_cons_zero]
       have hw3:0≤w0∧w0≤w1∧w1≤345686400000:=by omega
       have hm4:m=1∨m=2∨m=3∨m=4:=by omega
       clear ho ho2 hm hd2 hbs hbl hka hkb
       obtain ⟨U,hU⟩:∃ U,runE xs w0 w1 m (cutF w0 w1 bs) (0,longA xs 0) w0=U:=⟨_,rfl⟩
       (repeat ((refine gM zM43 fun K1 hK1=>?_;simp only [go_sem,↓reduceIte,reduceCtorEq,nA,nB,nC,nD,nE,nF]<;>and_intros)))
       refine (g_run n xs w0 w1 m ka kb bs i _ ⟨upd_same _ _ _,(upd_other _ _ hkk).trans (upd_same _ _ _),upd_same _ _ _,fun _ _=>rfl⟩ hkk hg hm4 hw3 hbl5 hbk hU).mono ?_
       rintro _ h3 ⟨rfl,A,B,s,half,H,hl4,hc⟩
       refine hK1 _ ?_;clear hK1 K1
       (repeat (first|refine gO rfl ?_|(refine gM zM43 fun K1 hK1=>?_;simp only [go_sem,↓reduceIte,reduceCtorEq,nA,nB,nC,nD,nE,nF]<;>and_intros)))
       refine (g_full n xs w0 w1 m A B ka kb s half i h3 H.p (by omega) (by omega)).mono ?_;rintro _ hz ⟨rfl,hh⟩;apply hK1;clear hK1 K1;rw [hh];clear hh hz
       have hol:=ownF_len U
       by_cases hfu:3000 < A.length+B.length
       ·rw [show decide (3000 < A.length+B.length)=true by simpa using hfu]
        refine awp_cond (t:=_) rfl (fun _=>?_) (fun h9=>by cases h9)
        (repeat (first|refine gO rfl ?_|(refine gM zM43 fun K1 hK1=>?_;simp only [go_sem,↓reduceIte,reduceCtorEq,nA,nB,nC,nD,nE,nF]<;>and_intros<;>(apply hK1;clear hK1 K1))))
        simp only [Tryz.results94,go_sem,↓reduceIte,reduceCtorEq,nA,nB,nC,nD,nE,nF]
        refine ⟨_,_,Weak.refl _,Hp.le.refl _,fun h9=>absurd trivial h9,fun U' hU'=>?_⟩
        rw [hU] at hU'
        subst hU'
        have hUl:3000 < U.length:=by
         rcases hc with ⟨rfl,rfl⟩|⟨_,f⟩
         ·omega
         ·exact f
        exact ⟨fun _=>rfl,fun h9=>by omega⟩
       ·rw [show decide (3000 < A.length+B.length)=false by simpa using hfu]
        obtain ⟨rfl,rfl⟩:=hc.resolve_right (fun h9=>hfu h9.1)
        have hp:=H.p
        refine awp_cond (t:=_) rfl (fun h9=>by cases h9) (fun _=>?_)
        (repeat (first|refine gO rfl ?_|(refine gM zM43 fun K1 hK1=>?_;simp only [go_sem,↓reduceIte,reduceCtorEq,nA,nB,nC,nD,nE,nF]<;>and_intros<;>(apply hK1;clear hK1 K1))))
        simp only [Tryz.results94,go_sem,↓reduceIte,reduceCtorEq,nA,nB,nC,nD,nE,nF]
        refine ⟨_,_,Weak.refl _,Hp.le.refl _,fun h9=>absurd trivial h9,fun U' hU'=>?_⟩
        rw [hU] at hU'
        subst hU'
        exact ⟨fun h9=>by omega,fun _=>⟨i,ka,kb,s,half,n,rfl,hp⟩⟩
      ·have hb9:(e != 0)=true:=by simpa using he
       refine awp_cond (t:=_) rfl (fun _=>?_) (fun h9=>by rw [hb9] at h9;cases h9)
       (repeat (first|refine gO rfl ?_|(refine gM zM43 fun K1 hK1=>?_;simp only [go_sem,↓reduceIte,reduceCtorEq,nA,nB,nC,nD,nE,nF]<;>and_intros<;>(apply hK1;clear hK1 K1))))
       simp only [Tryz.results94,go_sem,↓reduceIte,reduceCtorEq,nA,nB,nC,nD,nE,nF]
       exact ⟨_,_,Weak.refl _,Hp.le.refl _,fun _=>rfl,fun h=>absurd h he⟩
  ·have hb9:(brkE bs != 0)=true:=by simpa using hk
   refine awp_cond (t:=_) rfl (fun _=>?_) (fun h9=>by rw [hb9] at h9;cases h9)
   (repeat (first|refine gO rfl ?_|(refine gM zM43 fun K1 hK1=>?_;simp only [go_sem,↓reduceIte,reduceCtorEq,nA,nB,nC,nD,nE,nF]<;>and_intros<;>(apply hK1;clear hK1 K1))))
   simp only [Tryz.results94,go_sem,↓reduceIte,reduceCtorEq,nA,nB,nC,nD,nE,nF]
   exact ⟨_,_,Weak.refl _,Hp.le.refl _,PlyR.bad (by rw [hpe];simp [orI,hk]) hk⟩
 ·have hb9:(faultF t != 0)=true:=by simpa using hf
  refine awp_cond (t:=_) rfl (fun _=>?_) (fun h9=>by rw [hb9] at h9;cases h9)
  (repeat (first|refine gO rfl ?_|(refine gM zM43 fun K1 hK1=>?_;simp only [go_sem,↓reduceIte,reduceCtorEq,nA,nB,nC,nD,nE,nF]<;>and_intros<;>(apply hK1;clear hK1 K1))))
  simp only [Tryz.results94,go_sem,↓reduceIte,reduceCtorEq,nA,nB,nC,nD,nE,nF]
  exact ⟨_,_,Weak.refl _,Hp.le.refl _,PlyR.bad (by rw [plyE];simp [orI,hf]) hf⟩
theorem arr_of_own0 {G:Gh} {h:Hp} {w w':World} (hs:HSim G h w) (hb:RowKit.Below w.heap.size w w') {g c z:Nat} {E:TypeId} {cur:Array Value} (hg:w.heap.size≤g) (hh:w'.heap[g]?=some (.cells cur E (0,0))) (hsz:cur.size=c * z) (hc:0 < c) (hcm:c≤maxLen) :
  ∃ G' k,h.T k=none∧GLe G G'∧Fr G h w G' { h with T:=upd h.T k (some (.cont z [])) } w'∧HSim G' { h with T:=upd h.T k (some (.cont z [])) } w'∧Rep G' (.arr z k 0) (.slice (some ⟨g,0,none⟩) 0 c):=by
 have hs':=hs.below hb.block
 have hk:h.T G.nx=none:=by
  cases e:h.T G.nx with
  | none=>rfl
  | some m=>exact absurd (hs.ftl G.nx (Nat.le_refl _)) (hs.tok _ m e).tl
 have htk:(upd G.tl G.nx (some (some ⟨g,0,z,c⟩))) G.nx=some (some ⟨g,0,z,c⟩):=upd_same _ _ _
 have hto:∀ l,l≠G.nx→(upd G.tl G.nx (some (some ⟨g,0,z,c⟩))) l=G.tl l:=fun l hl=>upd_other _ _ hl
 have hle:GLe G { G with tl:=upd G.tl G.nx (some (some ⟨g,0,z,c⟩)),nx:=G.nx+1 }:=⟨fun _ _ _ e=>e,fun _ _ e=>e,Nat.le_succ _,fun j hj=>by
  show TlLe _ (upd G.tl G.nx (some (some ⟨g,0,z,c⟩)) j)
  rw [upd_other _ _ (by omega)];exact .same _⟩
 have hbt:∀ l t,h.T l≠none→G.tl l=some (some t)→t.g < w.heap.size:=fun l t hl e=>by
  obtain ⟨o,ho⟩:=Option.ne_none_iff_exists'.1 hl
  obtain ⟨vs,E,e2⟩:=(hs.tok l o ho).blk e
  exact (Array.getElem?_eq_some_iff.1 e2).1
 have hbo:∀ i b,h.H i≠none→G.at_ i=some b→b < w.heap.size:=fun i b hi e=>by
  obtain ⟨o,ho⟩:=Option.ne_none_iff_exists'.1 hi
  obtain ⟨b',o',e1,e2,_⟩:=hs.obj i o ho
  rw [e] at e1
  cases e1
  exact (Array.getElem?_eq_some_iff.1 e2).1
 have hTn:∀ l,l≠G.nx→upd h.T G.nx (some (TO.cont z [])) l≠none→h.T l≠none:=fun l hl a=>by rwa [upd_other _ _ hl] at a
 have hown:∀ b,Own { G with tl:=upd G.tl G.nx (some (some ⟨g,0,z,c⟩)),nx:=G.nx+1 } { h with T:=upd h.T G.nx (some (.cont z [])) } b→Own G h b∨b=g:=by
  rintro b (⟨i,hi,e⟩|⟨l,t,hl,e,hgt⟩)
  ·exact .inl (.inl ⟨i,hi,e⟩)
  ·by_cases hlk:l=G.nx
   ·subst hlk
    replace e:upd G.tl G.nx (some (some ⟨g,0,z,c⟩)) G.nx=some (some t):=e
    rw [htk] at e
    cases e
    exact .inr hgt.symm
   ·replace e:upd G.tl G.nx (some (some ⟨g,0,z,c⟩)) l=some (some t):=e
    rw [hto l hlk] at e
    exact .inl (.inr ⟨l,t,hTn l hlk hl,e,hgt⟩)
 refine ⟨{ G with tl:=upd G.tl G.nx (some (some ⟨g,0,z,c⟩)),nx:=G.nx+1 },G.nx,hk,hle,⟨hb.os,hb.tape,hb.output,hb.size,fun b hb' hn=>⟨hb.block b hb',fun o=>?_,fun o=>rfl⟩⟩,?_,?_⟩
 ·rcases hown b o with h1|h1
  ·exact hn h1
  ·omega
 ·refine ⟨hs'.val,fun i ob e=>?_,hs'.inj,fun l m e=>?_,fun l j t t' hl hj e e' hg'=>?_,fun l i t hl hi e=>?_,fun i hi=>hs.fat i (by have:G.nx+1≤i:=hi;omega),fun l hl=>?_⟩
  ·obtain ⟨b,o,x,y,r,q⟩:=hs'.obj i ob e
   exact ⟨b,o,x,y,r.mono hle,q⟩
  ·by_cases hlk:l=G.nx
   ·subst hlk
    replace e:upd h.T G.nx (some (TO.cont z [])) G.nx=some m:=e
    rw [upd_same] at e
    cases e
    exact .inr ⟨⟨g,0,z,c⟩,cur,E,htk,rfl,hc,hh,hsz,Nat.zero_le _,hcm,fun o=>hs.val_new hg o,rfl,(fun x hx=>absurd hx List.not_mem_nil),⟨by simp,fun j a b=>absurd a (by simp)⟩⟩
   ·replace e:upd h.T G.nx (some (TO.cont z [])) l=some m:=e
    rw [upd_other _ _ hlk] at e
    exact (hs'.tok l m e).move hle (hto l hlk) fun t _=>⟨rfl,fun _=>rfl⟩
  ·replace e:upd G.tl G.nx (some (some ⟨g,0,z,c⟩)) l=some (some t):=e
   replace e':upd G.tl G.nx (some (some ⟨g,0,z,c⟩)) j=some (some t'):=e'
   by_cases hlk:l=G.nx
   ·by_cases hjk:j=G.nx
    ·rw [hlk,hjk]
    ·subst hlk
     rw [htk] at e
     cases e
     rw [hto j hjk] at e'
     have:=hbt j t' (hTn j hjk hj) e'
     simp only at hg'
     omega
   ·rw [hto l hlk] at e
    have h1:=hbt l t (hTn l hlk hl) e
    by_cases hjk:j=G.nx
    ·subst hjk
     rw [htk] at e'
     cases e'
     simp only at hg'
     omega
    ·rw [hto j hjk] at e'
     exact hs'.tinj l j t t' (hTn l hlk hl) (hTn j hjk hj) e e' hg'
  ·replace e:upd G.tl G.nx (some (some ⟨g,0,z,c⟩)) l=some (some t):=e
   intro e2
   by_cases hlk:l=G.nx
   ·subst hlk
    rw [htk] at e
    cases e
    have:=hbo i _ hi e2
    simp only at this
    omega
   ·rw [hto l hlk] at e
    exact hs'.tobj l i t (hTn l hlk hl) hi e e2
  ·show upd G.tl G.nx (some (some ⟨g,0,z,c⟩)) l=none
   have hl':G.nx+1≤l:=hl
   rw [upd_other _ _ (by omega)]
   exact hs.ftl l (by omega)
 ·refine .arr z G.nx 0 _ 0 c ⟨Nat.lt_succ_self _,⟨_,_,rfl,Nat.zero_le _,.inr ⟨g,rfl⟩⟩,?_⟩
  show match upd G.tl G.nx (some (some ⟨g,0,z,c⟩)) G.nx with|none=>True|some none=>0=0∧∃ a,Value.slice (some ⟨g,0,none⟩) 0 c=.slice a 0 0|some (some t)=>0≤t.m∧(0=t.m→Value.slice (some ⟨g,0,none⟩) 0 c=.slice (some ⟨t.g,0,none⟩) 0 t.c∧z=t.z)
  rw [htk]
  exact ⟨Nat.le_refl _,fun _=>⟨rfl,rfl⟩⟩
open Go Go.RowKit Go.Lib
theorem infoPlay:(Tryz.prog.info? 79).map (fun i=>(i.zero,i.size,i.bytes))=some (some (.agg #[.string ⟨#[]⟩,.string ⟨#[]⟩,.int .i64 0,.int .i64 0]),4,48):=by kernel_rfl
theorem grow_any (n:Nat) (h0:0 < n) (hn:n≤100000) (w:World):Calls Tryz.prog 156 #[.slice none 0 0,.int .i64 n] w fun e w' =>
  ∃ g c cur,e=.returned (.slice (some ⟨g,0,none⟩) 0 c)∧w.heap.size≤g∧w'.heap[g]?=some (.cells cur 79 (0,0))∧cur.size=c * 4∧0 < c∧c≤maxLen∧Below w.heap.size w w':=by
 obtain ⟨i0,hi,hz0,hz1,hz2⟩:=info_parts infoPlay
 have happ:=fun (W:World)=>Lib.run_append_nil_zeros (P:=Tryz.prog) W 73 3 73 79 i0 _ .i64 .i64 Tryz.underlying73 Tryz.underlying3 hi hz0 n h0 (by rw [hz1];omega) (by omega) (by rw [hz2];omega)
 have hc1:=grownCap_ge w n 0 79
 have hc2:=grownCap_le_maxLen w n 0 79 (by unfold maxLen;omega)
 have hsz:(Builtin.zeroCells (Value.agg #[.string ⟨#[]⟩,.string ⟨#[]⟩,.int .i64 0,.int .i64 0]).cells n++Builtin.zeroCells (Value.agg #[.string ⟨#[]⟩,.string ⟨#[]⟩,.int .i64 0,.int .i64 0]).cells (grownCap w n 0 79 - n)).size=grownCap w n 0 79 * 4:=by
  rw [Array.size_append,size_zeroCells,size_zeroCells,show (Value.agg #[.string ⟨#[]⟩,.string ⟨#[]⟩,.int .i64 0,.int .i64 0]).cells.size=4 from rfl]
  omega
 go_enter Tryz.func156,Tryz.ntmps156
 go_wp2_with (at_builtin;refine Lib.wpList_append_run _ rfl _ _ _ _ rfl _ _ rfl rfl _ _ (happ _) ?_)
 go_ret
 exact ⟨_,_,_,rfl,Nat.le_refl _,heap_alloc_new _ _,hsz,by omega,hc2,(Below.refl _ _).drew.alloc (Nat.le_refl _) _⟩
theorem grow_none (w:World):Calls Tryz.prog 156 #[.slice none 0 0,.int .i64 0] w fun e w'=>e=.returned (.slice none 0 0)∧w=w':=by
 go_enter Tryz.func156,Tryz.ntmps156
 go_wp2_with fail
 go_ret
 exact ⟨rfl,rfl⟩
theorem vs_two' {vs:Array Value} (h:vs.size=2):vs=#[vs.getD 0 undef,vs.getD 1 undef]:=by
 apply Array.ext (by simpa using h)
 intro j hj hj'
 simp only [List.size_toArray,List.length_cons,List.length_nil] at hj'
 have hc:j=0∨j=1:=by omega
 rcases hc with rfl|rfl<;>simp [Array.getD,h]
theorem g_grow (n:Nat) (h:Hp) (h0:0 < n) (hn:n≤100000):ACalls Tryz.prog 156 [.v (.slice none 0 0),.v (.int .i64 n)] h (fun r h'=>∃ q,h.T q=none∧r=.arr 4 q 0∧h'={ h with T:=upd h.T q (some (.cont 4 [])) }):=by
 refine acalls_mk (by kernel_rfl) fun G w vs hs hv ha=>?_
 have r0:=ha 0 (by simp)
 have r1:=ha 1 (by simp)
 rw [vs_two' hv]
 generalize vs.getD 0 undef=v at r0
 generalize vs.getD 1 undef=u at r1
 simp only [List.getElem_cons_zero] at r0
 simp only [List.getElem_cons_succ,List.getElem_cons_zero] at r1
 cases r0
 cases r1
 refine (grow_any n h0 hn w).mono ?_
 rintro e w' ⟨g,c,cur,rfl,a1,a2,a3,a4,a5,a6⟩
 obtain ⟨G',k,hk,g1,f1,s1,rr⟩:=arr_of_own0 hs a6 a1 a2 a3 a4 a5
 exact ⟨_,rfl,_,_,G',⟨k,hk,rfl,rfl⟩,g1,f1,s1,rr⟩
theorem g_grow0 (h:Hp):ACalls Tryz.prog 156 [.v (.slice none 0 0),.v (.int .i64 0)] h (fun r h'=>r=.v (.slice none 0 0)∧h'=h):=by
 refine acalls_mk (by kernel_rfl) fun G w vs hs hv ha=>?_
 have r0:=ha 0 (by simp)
 have r1:=ha 1 (by simp)
 rw [vs_two' hv]
 generalize vs.getD 0 undef=v at r0
 generalize vs.getD 1 undef=u at r1
 simp only [List.getElem_cons_zero] at r0
 simp only [List.getElem_cons_succ,List.getElem_cons_zero] at r1
 cases r0
 cases r1
 refine (grow_none w).mono ?_
 rintro e w' ⟨rfl,rfl⟩
 exact ⟨_,rfl,.v (.slice none 0 0),h,G,⟨rfl,rfl⟩,GLe.refl _,Fr.refl _ _ _,hs,.v _ rfl⟩
theorem g_concat (A B:List Pl) (ka kb:Option Nat) (h:Hp) (h0:0 < A.length+B.length) (hl:A.length+B.length≤4000) :
  ACalls Tryz.prog 95 [.row 1 [[.row 4 (A.map encP) ka],[.row 4 (B.map encP) kb]] none] h
   (fun r h'=>∃ q,r=.arr 4 q (A.length+B.length)∧h'.T q=some (.cont 4 ((A++B).map encP))):=by
 have r0:[[AV.row 4 (A.map encP) ka],[AV.row 4 (B.map encP) kb]].getD 0 []=[AV.row 4 (A.map encP) ka]:=rfl
 have r1:[[AV.row 4 (A.map encP) ka],[AV.row 4 (B.map encP) kb]].getD 1 []=[AV.row 4 (B.map encP) kb]:=rfl
 have rl2:[[AV.row 4 (A.map encP) ka],[AV.row 4 (B.map encP) kb]].length=2:=rfl
 generalize [[AV.row 4 (A.map encP) ka],[AV.row 4 (B.map encP) kb]]=R at r0 r1 rl2 ⊢
 refine gE Tryz.func95 rfl (by kernel_rfl) 35 rfl fun c=>?_
 (repeat (first|refine gO rfl ?_|(refine gR fun K1 hK1=>?_;simp only [go_sem,↓reduceIte,reduceCtorEq,nA,nB,nC,nD,nE,nF,rl2]<;>and_intros<;>(apply hK1;clear hK1 K1))))
 refine awp_loopC (rl false [0,1,2,1,5,3,24]) 0 (fun g s=>∃ (j:Nat) (sz:Int),g+j=2∧(j=0∧sz=0∨j=1∧sz=A.length∨j=2∧sz=A.length+B.length) ∧
  s=⟨((.row 1 R none) :: AV.junk :: AV.junk :: ((.v (.int .i64 sz)) :: (jnk 5 ((.row 1 R none) :: (.v (.int .i64 2)) :: (.v (.int .i64 j)) :: (jnk 24 []))))),[],h⟩) 2
  ⟨0,0,rfl,.inl ⟨rfl,rfl⟩,rfl⟩ ?_
 rintro g _ ⟨j,sz,hj,hc,rfl⟩
 (repeat (first|refine gO rfl ?_|(refine gR fun K1 hK1=>?_;simp only [go_sem,↓reduceIte,reduceCtorEq,nA,nB,nC,nD,nE,nF]<;>and_intros<;>(apply hK1;clear hK1 K1))))
 refine awp_cond (t:=_) rfl (fun h1=>?_) (fun h1=>?_)
 ·simp only [decide_eq_true_eq] at h1
  have hx:∃ X kx,R.getD j []=[AV.row 4 (X.map encP) kx]∧(j=0∧X=A∨j=1∧X=B):=by
   have hjc:j=0∨j=1:=by omega
   rcases hjc with rfl|rfl
   ·exact ⟨A,ka,r0,.inl ⟨rfl,rfl⟩⟩
   ·exact ⟨B,kb,r1,.inr ⟨rfl,rfl⟩⟩
  obtain ⟨X,kx,gx,hX⟩:=hx
  have hs2:sz+X.length=A.length∧j=0∨sz+X.length=A.length+B.length∧j=1:=by
   rcases hX with ⟨rfl,rfl⟩|⟨rfl,rfl⟩<;>rcases hc with ⟨h5,rfl⟩|⟨h5,rfl⟩|⟨h5,rfl⟩<;>omega
  have hjl:j < R.length:=by omega
  clear r0 r1 hX hc
  (repeat (first|refine gO rfl ?_|(refine gR fun K1 hK1=>?_;simp only [go_sem,↓reduceIte,reduceCtorEq,nA,nB,nC,nD,nE,nF,Int.toNat_natCast,gx,rl2,List.length_map]<;>and_intros<;>first|(apply hK1;clear hK1 K1)|(intros;(omega)))))
  refine awp_cond (t:=_) rfl (fun h9=>?_) (fun _=>?_)
  ·simp only [decide_eq_true_eq] at h9
   omega
  (repeat (first|refine gO rfl ?_|(refine gR fun K1 hK1=>?_;simp only [go_sem,↓reduceIte,reduceCtorEq,nA,nB,nC,nD,nE,nF]<;>and_intros<;>first|(apply hK1;clear hK1 K1)|(intros;(omega)))))
  refine ⟨g - 1,by omega,j+1,sz+X.length,by omega,?_,rfl⟩
  omega
 ·simp only [decide_eq_false_iff_not] at h1
  have hj2:j=2:=by omega
  have hsz:sz=((A.length+B.length:Nat):Int):=by omega
  subst hj2 hsz
  clear hc h1 hj
  (repeat (first|refine gO rfl ?_|(refine gR fun K1 hK1=>?_;simp only [go_sem,↓reduceIte,reduceCtorEq,nA,nB,nC,nD,nE,nF]<;>and_intros)))
  refine (g_grow (A.length+B.length) h h0 (by omega)).mono ?_
  rintro _ h2 ⟨q,hq,rfl,rfl⟩
  refine hK1 _ ?_;clear hK1 K1
  (repeat (first|refine gO rfl ?_|(refine gR fun K1 hK1=>?_;simp only [go_sem,↓reduceIte,reduceCtorEq,nA,nB,nC,nD,nE,nF,rl2]<;>and_intros<;>(apply hK1;clear hK1 K1))))
  refine awp_loopC (rl false [6,1,18,3,8]) 0 (fun g s=>∃ (j:Nat) (X:List Pl),g+j=2∧(j=0∧X=[]∨j=1∧X=A∨j=2∧X=A++B) ∧
   s=⟨((jnk 6 ((.arr 4 q X.length) :: (jnk 18 ((.row 1 R none) :: (.v (.int .i64 2)) :: (.v (.int .i64 j)) :: (jnk 8 [])))))),[],⟨h.H,upd h.T q (some (.cont 4 (X.map encP)))⟩⟩) 2
   ⟨0,[],rfl,.inl ⟨rfl,rfl⟩,rfl⟩ ?_
  rintro g _ ⟨j,X,hj,hc,rfl⟩
  have hTq:∀ Y,upd h.T q (some (TO.cont 4 Y)) q=some (.cont 4 Y):=fun Y=>upd_same _ _ _
  (repeat (first|refine gO rfl ?_|(refine gR fun K1 hK1=>?_;simp only [go_sem,↓reduceIte,reduceCtorEq,nA,nB,nC,nD,nE,nF]<;>and_intros<;>(apply hK1;clear hK1 K1))))
  refine awp_cond (t:=_) rfl (fun h1=>?_) (fun h1=>?_)
  ·simp only [decide_eq_true_eq] at h1
   have hx:∃ Y kx,R.getD j []=[AV.row 4 (Y.map encP) kx]∧(j=0∧Y=A∨j=1∧Y=B):=by
    have hjc:j=0∨j=1:=by omega
    rcases hjc with rfl|rfl
    ·exact ⟨A,ka,r0,.inl ⟨rfl,rfl⟩⟩
    ·exact ⟨B,kb,r1,.inr ⟨rfl,rfl⟩⟩
   obtain ⟨Y,kx,gx,hY⟩:=hx
   have hXY:(j+1=0∧X++Y=[]∨j+1=1∧X++Y=A∨j+1=2∧X++Y=A++B)∧X.length+Y.length≤4000:=by
    rcases hY with ⟨rfl,rfl⟩|⟨rfl,rfl⟩<;>rcases hc with ⟨h5,rfl⟩|⟨h5,rfl⟩|⟨h5,rfl⟩
    ·exact ⟨.inr (.inl ⟨rfl,rfl⟩),by simp;omega⟩
    ·omega
    ·omega
    ·omega
    ·exact ⟨.inr (.inr ⟨rfl,rfl⟩),hl⟩
    ·omega
   have hjl:j < R.length:=by omega
   have hmx:(X.map encP).length=X.length:=List.length_map _
   have hmy:(Y.map encP).length=Y.length:=List.length_map _
   clear r0 r1 hY hc
   (repeat (first|refine gO rfl ?_|(refine gR fun K1 hK1=>?_;simp only [go_sem,↓reduceIte,reduceCtorEq,nA,nB,nC,nD,nE,nF,Int.toNat_natCast,gx,rl2,hTq,hmx,hmy,upd_upd]<;>and_intros<;>first|(apply hK1;clear hK1 K1)|(intros;first|omega|(simp_all<;>omega)))))
   refine ⟨g - 1,by omega,j+1,X++Y,by omega,hXY.1,?_⟩
   rw [List.length_append,List.map_append]
   rfl
  ·simp only [decide_eq_false_iff_not] at h1
   have hj2:j=2:=by omega
   have hX:X=A++B:=by
    rcases hc with ⟨h5,rfl⟩|⟨h5,rfl⟩|⟨h5,rfl⟩
    ·omega
    ·omega
    ·rfl
   subst hj2 hX
   clear hc h1 hj
   (repeat (first|refine gO rfl ?_|(refine gR fun K1 hK1=>?_;simp only [go_sem,↓reduceIte,reduceCtorEq,nA,nB,nC,nD,nE,nF]<;>and_intros<;>(apply hK1;clear hK1 K1))))
   simp only [Tryz.results95,go_sem,↓reduceIte,reduceCtorEq,nA,nB,nC,nD,nE,nF]
   exact ⟨_,_,Weak.refl _,Hp.le.refl _,q,by rw [List.length_append],hTq _⟩
theorem g_concat0 (ka kb:Option Nat) (h:Hp) :
  ACalls Tryz.prog 95 [.row 1 [[.row 4 [] ka],[.row 4 [] kb]] none] h (fun r h'=>r=.row 4 [] none):=by
 have r0:[[AV.row 4 [] ka],[AV.row 4 [] kb]].getD 0 []=[AV.row 4 [] ka]:=rfl
 have r1:[[AV.row 4 [] ka],[AV.row 4 [] kb]].getD 1 []=[AV.row 4 [] kb]:=rfl
 have rl2:[[AV.row 4 [] ka],[AV.row 4 [] kb]].length=2:=rfl
 generalize [[AV.row 4 [] ka],[AV.row 4 [] kb]]=R at r0 r1 rl2 ⊢
 have hR:∀ j,j < 2→∃ kx,R.getD j []=[AV.row 4 [] kx]:=fun j hj=>by
  have hjc:j=0∨j=1:=by omega
  rcases hjc with rfl|rfl
  ·exact ⟨ka,r0⟩
  ·exact ⟨kb,r1⟩
 clear r0 r1
 refine gE Tryz.func95 rfl (by kernel_rfl) 35 rfl fun c=>?_
 (repeat (first|refine gO rfl ?_|(refine gR fun K1 hK1=>?_;simp only [go_sem,↓reduceIte,reduceCtorEq,nA,nB,nC,nD,nE,nF,rl2]<;>and_intros<;>(apply hK1;clear hK1 K1))))
 refine awp_loopC (rl false [0,1,2,1,5,3,24]) 0 (fun g s=>∃ (j:Nat),g+j=2 ∧
  s=⟨((.row 1 R none) :: AV.junk :: AV.junk :: ((.v (.int .i64 0)) :: (jnk 5 ((.row 1 R none) :: (.v (.int .i64 2)) :: (.v (.int .i64 j)) :: (jnk 24 []))))),[],h⟩) 2
  ⟨0,rfl,rfl⟩ ?_
 rintro g _ ⟨j,hj,rfl⟩
 (repeat (first|refine gO rfl ?_|(refine gR fun K1 hK1=>?_;simp only [go_sem,↓reduceIte,reduceCtorEq,nA,nB,nC,nD,nE,nF]<;>and_intros<;>(apply hK1;clear hK1 K1))))
 refine awp_cond (t:=_) rfl (fun h1=>?_) (fun h1=>?_)
 ·simp only [decide_eq_true_eq] at h1
  obtain ⟨kx,gx⟩:=hR j (by omega)
  have hjl:j < R.length:=by omega
  clear hR
  (repeat (first|refine gO rfl ?_|(refine gR fun K1 hK1=>?_;simp only [go_sem,↓reduceIte,reduceCtorEq,nA,nB,nC,nD,nE,nF,Int.toNat_natCast,gx,rl2,List.length_map]<;>and_intros<;>first|(apply hK1;clear hK1 K1)|(intros;(omega)))))
  refine awp_cond (t:=_) rfl (fun h9=>by simp at h9) (fun _=>?_)
  (repeat (first|refine gO rfl ?_|(refine gR fun K1 hK1=>?_;simp only [go_sem,↓reduceIte,reduceCtorEq,nA,nB,nC,nD,nE,nF]<;>and_intros<;>first|(apply hK1;clear hK1 K1)|(intros;(omega)))))
  exact ⟨g - 1,by omega,j+1,by omega,rfl⟩
 ·clear h1 hj
  (repeat (first|refine gO rfl ?_|(refine gR fun K1 hK1=>?_;simp only [go_sem,↓reduceIte,reduceCtorEq,nA,nB,nC,nD,nE,nF]<;>and_intros)))
  refine (g_grow0 h).mono ?_;rintro _ hz ⟨rfl,hh⟩;apply hK1;clear hK1 K1;rw [hh];clear hh hz
  (repeat (first|refine gQ rfl ?_|(refine gR fun K1 hK1=>?_;simp only [go_sem,↓reduceIte,reduceCtorEq,nA,nB,nC,nD,nE,nF,rl2]<;>and_intros<;>(apply hK1;clear hK1 K1))))
  refine awp_seq ?_
  (repeat (first|refine gO rfl ?_|(refine gR fun K1 hK1=>?_;simp only [go_sem,↓reduceIte,reduceCtorEq,nA,nB,nC,nD,nE,nF,rl2]<;>and_intros<;>(apply hK1;clear hK1 K1))))
  refine awp_loopC (rl false [6,1,18,3,8]) 0 (fun g s=>∃ (j:Nat) (x:AV) (h2:Hp),g+j=2∧(x=.v (.slice none 0 0)∨∃ k,x=.row 4 [] (some k)∧h2.T k=some (.tail 0)) ∧
   s=⟨((jnk 6 ((x) :: (jnk 18 ((.row 1 R none) :: (.v (.int .i64 2)) :: (.v (.int .i64 j)) :: (jnk 8 [])))))),[],h2⟩) 2
   ⟨0,_,_,rfl,.inl rfl,rfl⟩ ?_
  rintro g _ ⟨j,x,h2,hj,hx,rfl⟩
  (repeat (first|refine gO rfl ?_|(refine gR fun K1 hK1=>?_;simp only [go_sem,↓reduceIte,reduceCtorEq,nA,nB,nC,nD,nE,nF]<;>and_intros<;>(apply hK1;clear hK1 K1))))
  refine awp_cond (t:=_) rfl (fun h1=>?_) (fun h1=>?_)
  ·simp only [decide_eq_true_eq] at h1
   obtain ⟨kx,gx⟩:=hR j (by omega)
   have hjl:j < R.length:=by omega
   clear hR
   rcases hx with rfl|⟨k,rfl,hT⟩
   ·(repeat (first|refine gO rfl ?_|(refine gR fun K1 hK1=>?_;simp only [go_sem,↓reduceIte,reduceCtorEq,nA,nB,nC,nD,nE,nF,Int.toNat_natCast,gx,rl2]<;>and_intros<;>first|(apply hK1;clear hK1 K1)|(intros;(omega))|skip)))
    intro k hk
    refine hK1 _ ?_;clear hK1 K1
    (repeat (first|refine gO rfl ?_|(refine gR fun K1 hK1=>?_;simp only [go_sem,↓reduceIte,reduceCtorEq,nA,nB,nC,nD,nE,nF,Int.toNat_natCast,gx,rl2]<;>and_intros<;>first|(apply hK1;clear hK1 K1)|(intros;(omega)))))
    exact ⟨g - 1,by omega,j+1,_,_,by omega,.inr ⟨k,rfl,upd_same _ _ _⟩,rfl⟩
   ·(repeat (first|refine gO rfl ?_|(refine gR fun K1 hK1=>?_;simp only [go_sem,↓reduceIte,reduceCtorEq,nA,nB,nC,nD,nE,nF,Int.toNat_natCast,gx,rl2,hT]<;>and_intros<;>first|(apply hK1;clear hK1 K1)|(intros;first|omega|decide))))
    exact ⟨g - 1,by omega,j+1,_,_,by omega,.inr ⟨k,rfl,upd_same _ _ _⟩,rfl⟩
  ·rcases hx with rfl|⟨k,rfl,hT⟩
   ·(repeat (first|refine gO rfl ?_|(refine gR fun K1 hK1=>?_;simp only [go_sem,↓reduceIte,reduceCtorEq,nA,nB,nC,nD,nE,nF]<;>and_intros<;>(apply hK1;clear hK1 K1))))
    simp only [Tryz.results95,go_sem,↓reduceIte,reduceCtorEq,nA,nB,nC,nD,nE,nF]
    exact ⟨_,_,Weak.nil _ _ _ ⟨rfl,rfl⟩,Hp.le.refl _,rfl⟩
   ·(repeat (first|refine gO rfl ?_|(refine gR fun K1 hK1=>?_;simp only [go_sem,↓reduceIte,reduceCtorEq,nA,nB,nC,nD,nE,nF]<;>and_intros<;>(apply hK1;clear hK1 K1))))
    simp only [Tryz.results95,go_sem,↓reduceIte,reduceCtorEq,nA,nB,nC,nD,nE,nF]
    exact ⟨_,_,Weak.row _ _ _,Hp.le.refl _,rfl⟩
open Go.RowKit Go.Sort Go.Proofs
section
variable {α:Type} {enc:α→List Value} {k:Nat}
theorem flatK_at (hk:∀ x,(enc x).length=k):∀ (l:List α) (j i:Nat) (hj:j < l.length),i < k→(l.flatMap enc)[j * k+i]?=(enc l[j])[i]?
  | [],_,_,hj,_=>absurd hj (by simp)
  | x :: r,0,i,_,hi=>by
    rw [List.flatMap_cons,Nat.zero_mul,Nat.zero_add,List.getElem?_append_left (by rw [hk];exact hi)]
    rfl
  | x :: r,j+1,i,hj,hi=>by
    rw [List.flatMap_cons,List.getElem?_append_right (by rw [hk,Nat.add_mul];omega),hk,show (j+1) * k+i - k=j * k+i by rw [Nat.add_mul];omega,flatK_at hk r j i (by simpa using hj) hi]
    rfl
theorem flatK_len (hk:∀ x,(enc x).length=k):∀ l:List α,(l.flatMap enc).length=l.length * k
  | []=>by simp
  | x :: r=>by rw [List.flatMap_cons,List.length_append,hk,flatK_len hk r,List.length_cons,Nat.add_mul];omega
variable [Inhabited α]
theorem flatK_list (hk:∀ x,(enc x).length=k) (d:Array α):(flatK enc k d).toList=d.toList.flatMap enc:=by
  apply List.ext_getElem?
  intro t
  by_cases h:t < d.size * k
  · have hk0:0 < k:=Nat.pos_of_ne_zero (fun e=>by rw [e,Nat.mul_zero] at h;omega)
    have hq:t / k < d.size:=Nat.div_lt_of_lt_mul (by rw [Nat.mul_comm];exact h)
    have hm:=Nat.mod_lt t hk0
    have e:=flatK_at hk d.toList (t / k) (t % k) (by simpa using hq) hm
    rw [show t / k * k+t % k=t by rw [Nat.mul_comm];exact Nat.div_add_mod t k] at e
    rw [e,Array.getElem?_toList,Array.getElem?_eq_getElem (by rw [size_flatK];exact h)]
    have g:=get_flatK enc k d t h
    rw [getElem!_pos _ t (by rw [size_flatK];exact h)] at g
    rw [g,getElem!_pos d _ hq,Array.getElem_toList,List.getElem?_eq_getElem (by rw [hk];exact hm),getElem!_pos _ _ (by rw [hk];exact hm)]
  · rw [List.getElem?_eq_none (by rw [Array.length_toList,size_flatK];omega),List.getElem?_eq_none (by rw [flatK_len hk,Array.length_toList];omega)]
theorem own_holds {w:World} {base e n cap g:Nat} {d:Array α} (hk:∀ x,(enc x).length=k) (h:w.ownsRow base e k (.slice (some ⟨g,0,none⟩) n cap) n (d.toList.flatMap enc)) (hd:d.size=n) :
    HoldsK enc k w g 0 d:=by
  rcases h.2 with ⟨h0,_⟩|⟨g',cap',cur,hv,_,hh,_,_,_,hx⟩
  · cases h0
  · simp only [Value.slice.injEq,Option.some.injEq,Addr.mk.injEq] at hv
    obtain ⟨⟨rfl,_,_⟩,_,rfl⟩:=hv
    intro t ht
    rw [size_flatK] at ht
    have e:(flatK enc k d).toList[t]?=some (flatK enc k d)[t]!:=by
      rw [Array.getElem?_toList,Array.getElem?_eq_getElem (by rw [size_flatK];exact ht),getElem!_pos _ _ (by rw [size_flatK];exact ht)]
    rw [flatK_list hk,← hx,List.getElem?_take_of_lt (by rw [← hd];exact ht)] at e
    simp only [Array.getElem?_toList] at e
    simp [World.cell?,World.frozen?,hh,e]
theorem sortK_own {w:World} {base e n cap g m:Nat} {d d':Array α} {os:Array Obj} (hk:∀ x,(enc x).length=k) (h:w.ownsRow base e k (.slice (some ⟨g,0,none⟩) n cap) n (d.toList.flatMap enc)) (hd':d'.size=n) :
    (sortWorldK enc k w g 0 m d' os).ownsRow base e k (.slice (some ⟨g,0,none⟩) n cap) n (d'.toList.flatMap enc)∧w.grownBy (sortWorldK enc k w g 0 m d' os) (some g):=by
  rcases h.2 with ⟨h0,_⟩|⟨g',cap',cur,hv,hg,hh,hnc,hcm,hsz,hx⟩
  · cases h0
  · simp only [Value.slice.injEq,Option.some.injEq,Addr.mk.injEq] at hv
    obtain ⟨⟨rfl,_,_⟩,_,rfl⟩:=hv
    have hlt:=block_lt hh
    have hgh:(sortWorldK enc k w g 0 m d' os).heap[g]?=some (.cells (putCells id 0 (flatK enc k d') cur) e (0,0)):=by
      unfold sortWorldK grow putRowK putRow mapBlock
      simp only [Array.getElem?_append,Array.size_modify,heap_ahead]
      rw [if_pos hlt,Array.getElem?_modify,if_pos rfl,hh]
      rfl
    have hle:n * k≤cap * k:=Nat.mul_le_mul_right k hnc
    refine ⟨⟨by rw [flatK_len hk,Array.length_toList,hd'],.inr ⟨g,cap,_,rfl,hg,hgh,hnc,hcm,by simp [putCells,hsz],?_⟩⟩,rfl,rfl,rfl,?_,?_⟩
    · rw [← flatK_list hk]
      apply List.ext_getElem?
      intro t
      by_cases ht:t < n * k
      · have hs:t < (flatK enc k d').size:=by rw [size_flatK,hd'];exact ht
        rw [List.getElem?_take_of_lt ht,Array.getElem?_toList,Array.getElem?_toList,putCells,Array.getElem?_mapIdx,Array.getElem?_eq_getElem (show t < cur.size by omega),Array.getElem?_eq_getElem hs]
        simp only [Option.map_some]
        rw [if_pos ⟨Nat.zero_le _,by omega⟩,Nat.sub_zero,getElem!_pos (flatK enc k d') t hs]
        rfl
      · rw [List.getElem?_eq_none (by rw [List.length_take];exact Nat.le_trans (Nat.min_le_left _ _) (by omega)),List.getElem?_eq_none (by rw [Array.length_toList,size_flatK,hd'];omega)]
    · unfold sortWorldK
      rw [size_grow]
      simp [putRowK]
    · intro j hj hne
      unfold sortWorldK grow putRowK putRow mapBlock
      simp only [Array.getElem?_append,Array.size_modify,heap_ahead]
      rw [if_pos hj,Array.getElem?_modify,if_neg (fun e=>hne (by rw [e]))]
end
end Go.Proofs.YtidkkmoiolffnaaGreatDoor
namespace Go.Proofs
open Go.Shelf
set_option linter.unusedVariables false
set_option linter.unusedSimpArgs false
def Tryz.sortPlay_ren:Go.Shelf.Ren:=⟨fun|6=>96|15=>158|14=>157|28=>227|29=>228|20=>219|21=>220|22=>221|23=>222|24=>223|25=>224|26=>225|27=>226|46=>277|47=>278|48=>279|49=>280|50=>281|57=>336|n=>n,fun|22=>73|24=>79|25=>194|3=>3|39=>279|0=>0|53=>211|55=>354|4=>4|46=>347|45=>346|50=>200|5=>5|9=>9|66=>395|70=>399|76=>440|77=>164|n=>n,fun|n=>n⟩
theorem Tryz.sortPlay:Go.Proofs.SlLaysF0.n6 Tryz.prog Tryz.sortPlay_ren:={
  mixed:=by kernel_rfl
  f6:=⟨Tryz.f96.name,by decide,Tryz.func96.trans (congrArg some (by kernel_rfl))⟩
  f14:=⟨Tryz.f157.name,by decide,Tryz.func157.trans (congrArg some (by kernel_rfl))⟩
  f15:=Tryz.func158.trans (congrArg some (by kernel_rfl))
  f20:=⟨Tryz.f219.name,by decide,Tryz.func219.trans (congrArg some (by kernel_rfl))⟩
  f21:=⟨Tryz.f220.name,by decide,Tryz.func220.trans (congrArg some (by kernel_rfl))⟩
  f22:=⟨Tryz.f221.name,by decide,Tryz.func221.trans (congrArg some (by kernel_rfl))⟩
  f23:=⟨Tryz.f222.name,by decide,Tryz.func222.trans (congrArg some (by kernel_rfl))⟩
  f24:=⟨Tryz.f223.name,by decide,Tryz.func223.trans (congrArg some (by kernel_rfl))⟩
  f25:=⟨Tryz.f224.name,by decide,Tryz.func224.trans (congrArg some (by kernel_rfl))⟩
  f26:=⟨Tryz.f225.name,by decide,Tryz.func225.trans (congrArg some (by kernel_rfl))⟩
  f27:=⟨Tryz.f226.name,by decide,Tryz.func226.trans (congrArg some (by kernel_rfl))⟩
  f28:=Tryz.func227.trans (congrArg some (by kernel_rfl))
  f29:=Tryz.func228.trans (congrArg some (by kernel_rfl))
  f46:=⟨Tryz.f277.name,by decide,Tryz.func277.trans (congrArg some (by kernel_rfl))⟩
  f47:=Tryz.func278.trans (congrArg some (by kernel_rfl))
  f48:=Tryz.func279.trans (congrArg some (by kernel_rfl))
  f49:=⟨Tryz.f280.name,by decide,Tryz.func280.trans (congrArg some (by kernel_rfl))⟩
  f50:=⟨Tryz.f281.name,by decide,Tryz.func281.trans (congrArg some (by kernel_rfl))⟩
  f57:=⟨Tryz.f336.name,by decide,Tryz.func336.trans (congrArg some (by kernel_rfl))⟩
  t0:=Tryz.underlying0
  a0:=Tryz.isAgg0
  z0:=Tryz.sizeOf0
  v0:=Tryz.zeroValue0
  t3:=Tryz.underlying3
  a3:=Tryz.isAgg3
  z3:=Tryz.sizeOf3
  v3:=Tryz.zeroValue3
  t4:=Tryz.underlying4
  a4:=Tryz.isAgg4
  z4:=Tryz.sizeOf4
  v4:=Tryz.zeroValue4
  t5:=Tryz.underlying5
  a5:=Tryz.isAgg5
  z5:=Tryz.sizeOf5
  v5:=Tryz.zeroValue5
  t9:=Tryz.underlying9
  a9:=Tryz.isAgg9
  z9:=Tryz.sizeOf9
  v9:=Tryz.zeroValue9
  t22:=Tryz.underlying73
  a22:=Tryz.isAgg73
  z22:=Tryz.sizeOf73
  v22:=Tryz.zeroValue73
  t25:=Tryz.underlying194
  a25:=Tryz.isAgg194
  z25:=Tryz.sizeOf194
  v25:=Tryz.zeroValue194
  t39:=Tryz.underlying279
  a39:=Tryz.isAgg279
  z39:=Tryz.sizeOf279
  v39:=Tryz.zeroValue279
  t45:=Tryz.underlying346
  a45:=Tryz.isAgg346
  z45:=Tryz.sizeOf346
  v45:=Tryz.zeroValue346
  t46:=Tryz.underlying347
  a46:=Tryz.isAgg347
  z46:=Tryz.sizeOf347
  v46:=Tryz.zeroValue347
  t50:=Tryz.underlying200
  a50:=Tryz.isAgg200
  z50:=Tryz.sizeOf200
  v50:=Tryz.zeroValue200
  t53:=Tryz.underlying211
  a53:=Tryz.isAgg211
  z53:=Tryz.sizeOf211
  v53:=Tryz.zeroValue211
  t55:=Tryz.underlying354
  a55:=Tryz.isAgg354
  z55:=Tryz.sizeOf354
  v55:=Tryz.zeroValue354
  t66:=Tryz.underlying395
  a66:=Tryz.isAgg395
  z66:=Tryz.sizeOf395
  v66:=Tryz.zeroValue395
  t70:=Tryz.underlying399
  a70:=Tryz.isAgg399
  z70:=Tryz.sizeOf399
  v70:=Tryz.zeroValue399
  t76:=Tryz.underlying440
  a76:=Tryz.isAgg440
  z76:=Tryz.sizeOf440
  v76:=Tryz.zeroValue440
  t77:=Tryz.underlying164
  a77:=Tryz.isAgg164
  z77:=Tryz.sizeOf164
  v77:=Tryz.zeroValue164 }
end Go.Proofs
namespace Go.Proofs.YtidkkmoiolffnaaGreatDoor
open Go Go.RowKit Go.Sort Go.Lib Go.Proofs
set_option linter.unusedVariables false
set_option linter.unusedSimpArgs false
set_option maxRecDepth 100000
set_option maxHeartbeats 4000000
def PlB:Type:={ x:Pl // 0≤x.2.1∧x.2.1≤1000000000000 }
instance:Inhabited PlB:=⟨⟨(⟨#[]⟩,0,0),by show (0:Int)≤0∧(0:Int)≤1000000000000;omega⟩⟩
def plV (x:Pl):List Value:=[.string ⟨#[]⟩,.string x.1,.int .i64 x.2.1,.int .i64 x.2.2]
def plB (x:PlB):List Value:=plV x.1
def atC (x y:PlB):Int:=x.1.2.1 - y.1.2.1
theorem runCmp (x y:PlB) (W:World):Calls Tryz.prog 97 #[.agg (plB x).toArray,.agg (plB y).toArray] W fun e w'=>e=.returned (.int .i64 (atC x y))∧∃ q os',w'=grow (W.drewN q) os':=by
 obtain ⟨⟨xn,xa,xl⟩,hx⟩:=x
 obtain ⟨⟨yn,ya,yl⟩,hy⟩:=y
 simp only at hx hy
 unfold plB plV atC
 have hw:IntKind.i64.wrap (xa - ya)=xa - ya:=by rw [IntKind.wrap_i64];omega
 go_enter Tryz.func97,Tryz.ntmps97
 go_wp2_with fail
 go_ret
 exact ⟨by simp [hw],0,_,by rw [alloc_eq_grow,alloc_eq_grow,grow_grow];rfl⟩
theorem at_swo:SWO (ltOf atC):=by
 refine ⟨fun x=>?_,fun x y z h1 h2=>?_,fun x y z h1 h2=>?_⟩
 ·simp [ltOf,atC]
 ·have a:x.1.2.1 - y.1.2.1 < 0:=of_decide_eq_true h1
  have b:y.1.2.1 - z.1.2.1 < 0:=of_decide_eq_true h2
  have e:x.1.2.1 - z.1.2.1 < 0:=by omega
  exact decide_eq_true e
 ·have a:¬ x.1.2.1 - y.1.2.1 < 0:=of_decide_eq_false h1
  have b:¬ y.1.2.1 - z.1.2.1 < 0:=of_decide_eq_false h2
  have e:¬ x.1.2.1 - z.1.2.1 < 0:=by omega
  exact decide_eq_false e
theorem repL_vals {α:Type} {G:Gh} (f:α→List Value) {us:List Value} (l:List α) (h:RepL G (l.map fun x=>(f x).map AV.v).flatten us):us=l.flatMap f:=by
 have e:(l.map fun x=>(f x).map AV.v).flatten=(l.flatMap f).map AV.v:=by
  clear h
  induction l with
  | nil=>rfl
  | cons x q ih=>simp [ih]
 rw [e] at h
 obtain ⟨h1,h2⟩:=h
 apply List.ext_getElem (by simpa using h1)
 intro j a b
 have h3:=(h2 j (by simpa using b) a).1
 simp only [List.getElem_map] at h3 ⊢
 generalize us[j]=y at h3
 cases h3;rfl
theorem repL_vals_mk {α:Type} (G:Gh) (f:α→List Value) (h1:∀ x,∀ v∈f x,v.oneCell'=true) (l:List α):RepL G (l.map fun x=>(f x).map AV.v).flatten (l.flatMap f):=by
 have e:(l.map fun x=>(f x).map AV.v).flatten=(l.flatMap f).map AV.v:=by
  induction l with
  | nil=>rfl
  | cons x q ih=>simp [ih]
 rw [e]
 refine ⟨by simp,fun j a b=>?_⟩
 have hv:((l.flatMap f)[j]'(by simpa using a)).oneCell'=true:=by
  obtain ⟨x,_,hx⟩:=List.mem_flatMap.1 (List.getElem_mem (show j < (l.flatMap f).length by simpa using a))
  exact h1 x _ hx
 simp only [List.getElem_map]
 exact ⟨.v _ hv,hv⟩
theorem plB_one (x:PlB):∀ v∈plB x,v.oneCell'=true:=by
 intro v hv
 simp [plB,plV] at hv
 rcases hv with rfl|rfl|rfl|rfl<;>rfl
theorem encP_map (l:List PlB):(l.map (·.1)).map encP=l.map fun x=>(plB x).map AV.v:=by
 rw [List.map_map];rfl
set_option maxHeartbeats 1000000 in
theorem insPlay_none (A:Option Addr) (c:Nat) (f:Value) (w:World):Calls Tryz.prog 219 #[.slice A 0 c,.int .i64 0,.int .i64 0,f] w fun e w'=>e=.returned (.tuple #[])∧w=w':=by
 go_enter Tryz.func219,Tryz.ntmps219
 go_wp2_with fail
 refine wp_loop_rounds 1 ?_
 rw [rounds_succ]
 go_wp2_with fail
 go_end0
 exact ⟨rfl,rfl⟩
theorem pdqPlay_none (A:Option Addr) (c:Nat) (l:Int) (f:Value) (w:World):Calls Tryz.prog 157 #[.slice A 0 c,.int .i64 0,.int .i64 0,.int .i64 l,f] w fun e w'=>e=.returned (.tuple #[])∧w=w':=by
 go_enter Tryz.func157,Tryz.ntmps157
 go_wp2_with fail
 refine wp_loop_rounds 1 ?_
 rw [rounds_succ]
 go_wp2_with fail
 refine (insPlay_none A c f _).mono ?_
 rintro e w1 ⟨rfl,rfl⟩
 go_wp2_with fail
 (try simp only [Exit.inBlock,Exit.then]);refine bodyPost_ret (results_none rfl _ _ _) rfl ?_
 exact ⟨rfl,rfl⟩
theorem sortPlay_none (A:Option Addr) (c:Nat) (f:Value) (w:World):Calls Tryz.prog 96 #[.slice A 0 c,f] w fun e w'=>e=.returned (.tuple #[])∧w=w':=by
 go_enter Tryz.func96,Tryz.ntmps96
 go_wp2_with fail
 refine (Tryz.bits_Len 0 _ (by omega) (by omega)).mono ?_
 rintro e w1 ⟨rfl,rfl⟩
 go_wp2_with fail
 refine (pdqPlay_none A c _ f _).mono ?_
 rintro e w1 ⟨rfl,rfl⟩
 go_wp2_with fail
 go_end0
 exact ⟨rfl,rfl⟩
theorem vs_two {vs:Array Value} (h:vs.size=2):vs=#[vs.getD 0 undef,vs.getD 1 undef]:=by
 apply Array.ext (by simpa using h)
 intro j hj hj'
 simp only [List.size_toArray,List.length_cons,List.length_nil] at hj'
 have hc:j=0∨j=1:=by omega
 rcases hc with rfl|rfl<;>simp [Array.getD,h]
theorem g_sortPlay (k:Nat) (l:List PlB) (h:Hp) (hT:h.T k=some (.cont 4 ((l.map (·.1)).map encP))) (h0:0 < l.length) (hb:l.length≤100000) :
  ACalls Tryz.prog 96 [.arr 4 k l.length,.fn 97 []] h
   (fun r h'=>r=.tup []∧∃ l':List PlB,l'.Perm l∧l'.Pairwise (fun x y=>x.1.2.1≤y.1.2.1)∧h'={ h with T:=upd h.T k (some (.cont 4 ((l'.map (·.1)).map encP))) }):=by
 refine acalls_mk (by kernel_rfl) fun G w vs hs hv ha=>?_
 have r0:=ha 0 (by simp)
 have r1:=ha 1 (by simp)
 rw [vs_two hv]
 generalize vs.getD 0 undef=v at r0
 generalize vs.getD 1 undef=u at r1
 simp only [List.getElem_cons_zero] at r0
 simp only [List.getElem_cons_succ,List.getElem_cons_zero] at r1
 cases r1 with
 | fn _ _ us _ hul _ _ =>
 have hus:us=#[]:=by apply Array.eq_empty_of_size_eq_zero;simpa using hul
 subst hus
 rw [encP_map] at hT
 have hml:(l.map fun x=>(plB x).map AV.v).length=l.length:=by simp
 cases r0 with
 | arr _ _ _ q m c ho =>
 obtain ⟨_,⟨q',c',e2,_,_⟩,hm⟩:=ho
 rcases hs.tok k _ hT with ⟨_,e1⟩|⟨tt,cur,E,htl,htm,htp,hth,hts,htc,htcm,htf,htz,hzx,htr⟩
 ·rw [e1] at hml;simp at hml;omega
 rw [htl] at hm
 obtain ⟨hxe,_⟩:=hm.2 (by rw [htm,hml])
 simp only [Value.slice.injEq] at hxe e2
 obtain ⟨rfl,rfl,rfl⟩:=hxe
 have hfl:(l.map fun x=>(plB x).map AV.v).flatten.length=l.length * 4:=by rw [flatten_len hzx,hml]
 rw [hfl] at htr
 have hcs:=repL_vals plB l htr
 rw [htz] at hts
 have hle:l.length≤tt.c:=by rw [← hml,← htm];exact htc
 have hk:∀ x:PlB,(plB x).length=4:=fun _=>rfl
 have hown:w.ownsRow 0 E 4 (.slice (some ⟨tt.g,0,none⟩) l.length tt.c) l.length (l.toArray.toList.flatMap plB):=by
  refine ⟨by rw [flatK_len hk],.inr ⟨tt.g,tt.c,cur,rfl,Nat.zero_le _,hth,hle,htcm,hts,by simpa using hcs⟩⟩
 have hblk:tt.g < w.heap.size:=(Array.getElem?_eq_some_iff.1 hth).1
 have hcl:CmpLays Tryz.prog 97 #[] plB 4 atC tt.g 0 l.toArray.size w:=fun m os dk _ x y=>by
  simpa using runCmp x y (sortWorldK plB 4 w tt.g 0 m dk os)
 have hso:=AnyQ.slices_SortFunc Tryz.sortPlay 4 Tryz.isAgg79 Tryz.sizeOf79 plB hk plB_one atC at_swo 97 #[] tt.g 0 tt.c l.toArray w (enters_of Tryz.func97 (by kernel_rfl) rfl) hcl (own_holds hk hown (by simp)) hblk (by simpa using (by omega:l.length < 4611686018427387904))
 simp only [List.size_toArray] at hso
 change Calls Tryz.prog 96 _ _ _ at hso
 refine hso.mono ?_
 rintro e w' ⟨rfl,d',n,os,hp,hsd,rfl⟩
 obtain ⟨p1,p2,p3⟩:=hp
 simp only [List.size_toArray] at p1
 obtain ⟨o1,o2⟩:=sortK_own (m:=n) (os:=os) (d':=d') (d:=l.toArray) hk hown p1
 have hd':d'.toList.length=l.length:=by simpa using p1
 rcases o1.2 with ⟨h9,_⟩|⟨g9,c9,cur9,hv9,_,hh9,_,_,hsz9,hx9⟩
 ·cases h9
 simp only [Value.slice.injEq,Option.some.injEq,Addr.mk.injEq] at hv9
 obtain ⟨⟨rfl,_,_⟩,_,rfl⟩:=hv9
 have sm:Sim G [] ⟨[],[],h⟩ ⟨#[],[]⟩ w:=⟨hs,Nat.le_refl _,fun t ht=>by simp at ht,rfl,⟨rfl,fun j b cs e=>by simp at e,fun b hb=>by simp at hb,List.nodup_nil⟩⟩
 have hzd:∀ x∈d'.toList.map fun x=>(plB x).map AV.v,x.length=4:=fun x hx=>by obtain ⟨y,_,rfl⟩:=List.mem_map.1 hx;rfl
 have hfd:(d'.toList.map fun x=>(plB x).map AV.v).flatten.length=l.length * 4:=by rw [flatten_len hzd,List.length_map,hd']
 obtain ⟨G',rfl,s2,g2,f2⟩:=sm.setCont (k:=k) (z:=4) (xs:=d'.toList.map fun x=>(plB x).map AV.v) (B:=tt.g) (c:=tt.c) (arr:=cur9) (E:=E) hT (fun b hb' hne=>o2.block b hb' (fun e=>hne (by simpa using e))) hh9 hsz9
  htf hzd (by rw [hfd,hx9];exact repL_vals_mk G plB plB_one _) (by rw [List.length_map,hd'];exact hle) htcm (by rw [List.length_map,hd'];exact h0) (.inr ⟨by rw [hml,List.length_map,hd'],rfl,tt,htl,rfl,rfl⟩) (.inr ⟨tt,htl,rfl⟩) o2.os o2.tape o2.output o2.size
 rw [← encP_map] at s2 f2 g2
 refine ⟨_,rfl,.tup [],_,_,⟨rfl,d'.toList,?_,?_,rfl⟩,g2,f2,s2.hs,.tup [] #[] (fun _=>undef) rfl (fun j hj=>by simp at hj) (fun j hj=>by simp at hj)⟩
 ·have e1:d'.extract 0 l.length=d':=by rw [← p1];simp
  have e2:l.toArray.extract 0 l.length=l.toArray:=by simp
  rw [e1,e2] at p3
  simpa using p3
 ·rw [List.pairwise_iff_getElem]
  intro i j hi hj hij
  have h9:=hsd i j (Nat.zero_le _) hij (by simpa [p1] using hj)
  simp only [ltOf,atC] at h9
  have hi2:i < d'.size:=by simpa using hi
  have hj2:j < d'.size:=by simpa using hj
  rw [getElem!_pos d' i hi2,getElem!_pos d' j hj2] at h9
  simp only [Array.getElem_toList]
  have h8:=of_decide_eq_false h9
  exact Int.not_lt.1 (fun h7=>h8 (by omega))
open Go
open Nat renaming reduceAdd→nA,reduceSub→nB,reduceMul→nC,reduceLT→nD,reduceLeDiff→nE,reduceEqDiff→nF,reduceMod→nG,reduceDiv→nH,reducePow→nI
abbrev zP20E:List Nat:=[0,1,2,3,4,5,6,7,8]
abbrev zP20P:List (Nat × List Nat × List Nat):=[(9,[],[10])]
attribute [go_sem] zP20E zP20P
set_option maxHeartbeats 8000000
theorem plyE_ok {d:Nat} {t:LT} {bs:List Wn} {w0 w1 m:Int} (hb:KC d t) (h:plyE d t bs w0 w1 m=0):GoodS (rdS d t)∧(Brk bs 0∧bs.length≤500)∧(0≤w0∧w0≤w1∧w1≤345686400000)∧(m=1∨m=2∨m=3∨m=4):=by
 unfold plyE at h
 by_cases h1:faultF t=0
 ·by_cases h2:brkE bs=0
  ·by_cases h3:m < 1∨4 < m
   ·simp [orI,h1,h2,h3] at h
   ·by_cases h4:winE w0 w1=0
    ·have h5:rdE d t=0:=by
      simp only [orI,h1,h2,h3,h4,if_true,if_false] at h
      by_cases h5:rdE d t=0
      ·exact h5
      ·simp [h5] at h
     refine ⟨rd_good hb h5,brkE_ok h2,?_,by omega⟩
     unfold winE at h4
     split at h4
     ·cases h4
     ·rename_i h9
      simp at h9
      omega
    ·simp [orI,h1,h2,h3,h4] at h
  ·simp [orI,h1,h2] at h
 ·simp [orI,h1] at h
theorem plB_of:∀ (l:List Pl),(∀ x∈l,0≤x.2.1∧x.2.1≤1000000000000)→∃ L:List PlB,L.map (·.1)=l
 | [],_=>⟨[],rfl⟩
 | x :: l,h=>by
  obtain ⟨L,hL⟩:=plB_of l fun y hy=>h y (List.mem_cons_of_mem _ hy)
  exact ⟨⟨x,h x List.mem_cons_self⟩ :: L,congrArg (x :: ·) hL⟩
theorem run_sorted {xs:List (ByteArray × Int)} {w0 w1:Int} {U:List (Pl × Bool)} (hR:RunF xs w0 w1 U) {L l:List PlB} (hL:L.map (·.1)=ownF U++brkF U) (hp:l.Perm L) (hs:l.Pairwise (fun x y=>x.1.2.1≤y.1.2.1)):l.map (·.1)=U.map (·.1):=by
 refine perm_sorted ?_ (List.pairwise_map.2 hs) (fills_sorted hR.fill)
 exact ((hp.map _).trans (by rw [hL])).trans (own_perm U)
theorem g_sortNil (f:Nat) (h:Hp):ACalls Tryz.prog 96 [.row 4 [] none,.fn f []] h (fun r h'=>r=.tup []∧h'=h):=by
 refine acalls_mk (by kernel_rfl) fun G w vs hs hv ha=>?_
 have r0:=ha 0 (by simp)
 rw [vs_two hv]
 generalize vs.getD 0 undef=v at r0
 generalize vs.getD 1 undef=u
 simp only [List.getElem_cons_zero] at r0
 have key:∃ a c,v=.slice a 0 c:=by
  cases r0 with
  | row _ _ _ g o n c uu hn hc hz hu hr h1 ht =>
   simp only [List.length_nil] at hn
   subst hn
   exact ⟨_,_,rfl⟩
  | nil=>exact ⟨_,_,rfl⟩
  | nilA _ a=>exact ⟨_,_,rfl⟩
 obtain ⟨a,c,rfl⟩:=key
 refine (sortPlay_none a c u w).mono ?_
 rintro e w' ⟨rfl,rfl⟩
 exact ⟨_,rfl,.tup [],h,G,⟨rfl,rfl⟩,GLe.refl _,Fr.refl _ _ _,hs,.tup [] #[] (fun _=>undef) rfl (fun j hj=>by simp at hj) (fun j hj=>by simp at hj)⟩
def RunAns (d:Nat) (t:LT) (bs:List Wn) (w0 w1 m:Int) (r:AV):Prop :=
 (plyE d t bs w0 w1 m≠0→r=.tup [.row 4 [] none,.v (.int .i64 (plyE d t bs w0 w1 m))]) ∧
 (plyE d t bs w0 w1 m=0→∀ U,runE (rdS d t) w0 w1 m (cutF w0 w1 bs) (0,longA (rdS d t) 0) w0=U→r=if U.length≤3000 then .tup [.row 4 ((U.map (·.1)).map encP) none,.v (.int .i64 0)] else .tup [.row 4 [] none,.v (.int .i64 2)])
theorem g_Run (d:Nat) (t:LT) (bs:List Wn) (w0 w1 m:Int) (h:Hp) (hb:KC d t) (hd:manyF t≤1000000000000000∧d≤1000) (hbs:∀ x∈bs,WOk x) (hbl:bs.length≤1000) :
  ACalls Tryz.prog 33 [.agg (encL t),.agg [.v (.int .i64 w0),.v (.int .i64 w1)],.row 3 (bs.map encW) none,.v (.int .i64 m)] h (fun r _=>RunAns d t bs w0 w1 m r):=by
 have hlen:=encL_len t
 have htk:List.take 6 (encL t)=encL t:=List.take_of_length_le (Nat.le_of_eq hlen)
 have hdk:List.drop 6 (encL t)=[]:=List.drop_of_length_le (Nat.le_of_eq hlen)
 refine gE Tryz.func33 rfl (by kernel_rfl) 33 rfl fun c=>?_
 (repeat (first|refine gO rfl ?_|((refine gR fun K1 hK1=>?_;simp only [go_sem,↓reduceIte,reduceCtorEq,nA,nB,nC,nD,nE,nF,hlen,htk,hdk]<;>and_intros<;>first|(apply hK1;clear hK1 K1)|skip))))
 refine (g_played d t bs w0 w1 m _ hb hd hbs hbl).mono ?_
 rintro r h2 ⟨p1,p2⟩
 refine hK1 _ ?_;clear hK1 K1
 have hok:=fun e=>plyE_ok (d:=d) (t:=t) (bs:=bs) (w0:=w0) (w1:=w1) (m:=m) hb e
 unfold RunAns
 by_cases he:plyE d t bs w0 w1 m=0
 ·obtain ⟨hg,⟨hbk,hbl5⟩,hw,hm⟩:=hok he
  obtain ⟨U,hU⟩:∃ U,runE (rdS d t) w0 w1 m (cutF w0 w1 bs) (0,longA (rdS d t) 0) w0=U:=⟨_,rfl⟩
  have hR:=run_facts hg hw.2.1 hw.1 hbk hU
  obtain ⟨q1,q2⟩:=p2 he U hU
  rw [hU,he]
  clear p1 p2 hok
  by_cases hl:3000 < U.length
  ·rw [q1 hl]
   clear q1 q2
   (repeat (first|refine gO rfl ?_|((refine gR fun K1 hK1=>?_;simp only [go_sem,↓reduceIte,reduceCtorEq,nA,nB,nC,nD,nE,nF]<;>and_intros<;>(apply hK1;clear hK1 K1)))))
   refine awp_cond (t:=_) rfl (fun _=>?_) (fun h9=>by cases h9)
   (repeat (first|refine gO rfl ?_|((refine gR fun K1 hK1=>?_;simp only [go_sem,↓reduceIte,reduceCtorEq,nA,nB,nC,nD,nE,nF]<;>and_intros<;>(apply hK1;clear hK1 K1)))))
   simp only [Tryz.results33,go_sem,↓reduceIte,reduceCtorEq,nA,nB,nC,nD,nE,nF]
   exact ⟨_,_,Weak.tup1 (Weak.nil 4 0 0 ⟨rfl,rfl⟩) (Weak.refl _),Hp.le.refl _,fun h9=>absurd trivial h9,fun _ e=>by subst e;rw [if_neg (by omega)]⟩
  ·obtain ⟨i,ka,kb,s,half,n,rfl,hp⟩:=q2 (by omega)
   clear q1 q2
   have hol:=ownF_len U
   unfold plC at hp
   have hbd:∀ x∈ownF U++brkF U,0≤x.2.1∧x.2.1≤1000000000000:=fun x hx=>by
    obtain ⟨y,hy,rfl⟩:=List.mem_map.1 ((own_perm U).mem_iff.1 hx)
    have:=fills_bd hR.fill y hy
    omega
   obtain ⟨L,hL⟩:=plB_of _ hbd
   have hLl:L.length=(ownF U).length+(brkF U).length:=by rw [← List.length_append,← hL,List.length_map]
   (repeat (first|refine gO rfl ?_|((refine gR fun K1 hK1=>?_;simp only [go_sem,↓reduceIte,reduceCtorEq,nA,nB,nC,nD,nE,nF]<;>and_intros<;>(apply hK1;clear hK1 K1)))))
   refine awp_cond (t:=_) rfl (fun h9=>by cases h9) (fun _=>?_)
   (repeat (first|refine gO rfl ?_|((first|refine gR ?_|((with_reducible refine xS ?_);refine uD 4 zM40 zP20E zP20P 37 rfl (by kernel_rfl) ?_))<;>((try with_reducible intro K1 hK1);simp only [go_sem,↓reduceIte,reduceCtorEq,nA,nB,nC,nD,nE,nF,hp]<;>and_intros<;>first|(apply hK1;clear hK1 K1)|(intros;(decide))|skip))))
   by_cases h0:0 < (ownF U).length+(brkF U).length
   ·refine (g_concat (ownF U) (brkF U) (some ka) (some kb) _ h0 (by omega)).mono ?_
    rintro _ h3 ⟨q,rfl,hT⟩
    refine hK1 _ ?_;clear hK1 K1
    (repeat (first|refine gO rfl ?_|((first|refine gR ?_|(with_reducible refine wM ?_ ?_))<;>((try with_reducible intro K1 hK1);simp only [go_sem,↓reduceIte,reduceCtorEq,nA,nB,nC,nD,nE,nF]<;>and_intros<;>first|(apply hK1;clear hK1 K1)|skip))))
    rw [← hLl]
    refine (g_sortPlay q L h3 (by rw [hL];exact hT) (by omega) (by omega)).mono ?_
    rintro _ h4 ⟨rfl,l',hpm,hsd,rfl⟩
    refine hK1 _ ?_;clear hK1 K1
    have hsrt:=run_sorted hR hL hpm hsd
    have hll:l'.length=L.length:=hpm.length_eq
    refine vRem_nil ?_
    refine awp_frz 12 q 4 (xs:=(l'.map (·.1)).map encP) (by rw [List.length_map,List.length_map,hll];rfl) (upd_same _ _ _) (fun y hy=>by obtain ⟨z,_,rfl⟩:=List.mem_map.1 hy;rfl) ?_
    rw [hsrt]
    (repeat (first|refine gO rfl ?_|((refine gR fun K1 hK1=>?_;simp only [go_sem,↓reduceIte,reduceCtorEq,nA,nB,nC,nD,nE,nF]<;>and_intros<;>(apply hK1;clear hK1 K1)))))
    simp only [Tryz.results33,go_sem,↓reduceIte,reduceCtorEq,nA,nB,nC,nD,nE,nF]
    exact ⟨_,_,Weak.refl _,Hp.le.refl _,fun h9=>absurd trivial h9,fun _ e=>by subst e;rw [if_pos (by omega)]⟩
   ·have hU0:U=[]:=List.eq_nil_of_length_eq_zero (by omega)
    subst hU0
    refine (g_concat0 (some ka) (some kb) _).mono ?_
    rintro _ h3 rfl
    refine hK1 _ ?_;clear hK1 K1
    (repeat (first|refine gO rfl ?_|((first|refine gR ?_|(with_reducible refine wM ?_ ?_))<;>((try with_reducible intro K1 hK1);simp only [go_sem,↓reduceIte,reduceCtorEq,nA,nB,nC,nD,nE,nF]<;>and_intros<;>first|(apply hK1;clear hK1 K1)|skip))))
    refine (g_sortNil _ _).mono ?_
    rintro _ h4 ⟨rfl,rfl⟩
    refine hK1 _ ?_;clear hK1 K1
    (repeat (first|refine gO rfl ?_|((refine gR fun K1 hK1=>?_;simp only [go_sem,↓reduceIte,reduceCtorEq,nA,nB,nC,nD,nE,nF]<;>and_intros<;>(apply hK1;clear hK1 K1)))))
    simp only [Tryz.results33,go_sem,↓reduceIte,reduceCtorEq,nA,nB,nC,nD,nE,nF]
    exact ⟨_,_,Weak.refl _,Hp.le.refl _,fun h9=>absurd trivial h9,fun _ e=>by subst e;rfl⟩
 ·have hb9:(plyE d t bs w0 w1 m != 0)=true:=by simpa using he
  rw [p1 he]
  generalize plyE d t bs w0 w1 m=e at *
  clear p1 p2 hok
  (repeat (first|refine gO rfl ?_|((refine gR fun K1 hK1=>?_;simp only [go_sem,↓reduceIte,reduceCtorEq,nA,nB,nC,nD,nE,nF]<;>and_intros<;>(apply hK1;clear hK1 K1)))))
  refine awp_cond (t:=_) rfl (fun _=>?_) (fun h9=>by rw [hb9] at h9;cases h9)
  (repeat (first|refine gO rfl ?_|((refine gR fun K1 hK1=>?_;simp only [go_sem,↓reduceIte,reduceCtorEq,nA,nB,nC,nD,nE,nF]<;>and_intros<;>(apply hK1;clear hK1 K1)))))
  simp only [Tryz.results33,go_sem,↓reduceIte,reduceCtorEq,nA,nB,nC,nD,nE,nF]
  exact ⟨_,_,Weak.tup1 (Weak.nil 4 0 0 ⟨rfl,rfl⟩) (Weak.refl _),Hp.le.refl _,fun _=>rfl,fun h9=>absurd h9 he⟩
theorem ofPl_len (A:List Pl):(ofPl A).length=A.length:=by simp [ofPl]
theorem g_sums (A:List Pl) (ka:Option Nat) (h:Hp) (hp:Pos (ofPl A)) (hl:A.length≤3000) :
  ACalls Tryz.prog 98 [.row 4 (A.map encP) ka] h (fun r h'=>∃ m ks f,r=.map m∧TalI h' m (ofPl A) ((ofPl A).map (·.1)) ks f):=by
 refine gE Tryz.func98 rfl (by kernel_rfl) 22 rfl fun c=>?_
 (repeat (first|refine gQ rfl ?_|(refine gM zM44 fun K1 hK1=>?_;simp only [go_sem,↓reduceIte,reduceCtorEq,nA,nB,nC,nD,nE,nF]<;>and_intros<;>(apply hK1;clear hK1 K1))))
 refine awp_seq ?_
 refine awp_own 3 2 rfl ⟨rfl,rfl⟩ (fun k hk=>?_)
 (repeat (first|refine gO rfl ?_|(refine gM zM44 fun K1 hK1=>?_;simp only [go_sem,↓reduceIte,reduceCtorEq,nA,nB,nC,nD,nE,nF,List.length_map]<;>and_intros<;>(apply hK1;clear hK1 K1))))
 refine awp_loopC (rl false [3,1,2,3,14]) 0 (fun g s=>∃ (j:Nat),g+j=A.length ∧
  s=⟨((jnk 3 ((.row 2 (((ofPl A).take j).map encStep) (some k)) :: AV.junk :: AV.junk :: ((.row 4 (A.map encP) ka) :: (.v (.int .i64 A.length)) :: (.v (.int .i64 j)) :: (jnk 14 []))))),[],⟨h.H,upd h.T k (some (.tail j))⟩⟩) A.length ⟨0,by omega,rfl⟩ ?_
 rintro g _ ⟨j,hj,rfl⟩
 have hTq:∀ X,upd h.T k (some (TO.tail X)) k=some (.tail X):=fun X=>upd_same _ _ _
 have hlj:(((ofPl A).take j).map encStep).length=j:=by rw [List.length_map,List.length_take,ofPl_len];omega
 (repeat (first|refine gO rfl ?_|(refine gM zM44 fun K1 hK1=>?_;simp only [go_sem,↓reduceIte,reduceCtorEq,nA,nB,nC,nD,nE,nF]<;>and_intros<;>(apply hK1;clear hK1 K1))))
 refine awp_cond (t:=_) rfl (fun h1=>?_) (fun h1=>?_)
 ·simp only [decide_eq_true_eq] at h1
  have hjl:j < A.length:=by omega
  have gx:(A.map encP).getD j []=encP (A.getD j default):=getD_enc encP A j default hjl
  have tx:(ofPl A).take (j+1)=(ofPl A).take j++[((A.getD j default).1,(A.getD j default).2.2)]:=by
   rw [List.take_add_one,ofPl,List.getElem?_map,List.getElem?_eq_getElem hjl,List.getD_eq_getElem?_getD,List.getElem?_eq_getElem hjl];rfl
  generalize A.getD j default=x at gx tx
  (repeat (first|refine gO rfl ?_|(refine gM zM44 fun K1 hK1=>?_;simp only [go_sem,↓reduceIte,reduceCtorEq,nA,nB,nC,nD,nE,nF,Int.toNat_natCast,gx,encP,hTq,hlj,upd_upd]<;>and_intros<;>first|(apply hK1;clear hK1 K1)|(intros;first|omega|decide))))
  exact ⟨g - 1,by omega,j+1,by omega,by rw [tx,List.map_append];rfl⟩
 ·simp only [decide_eq_false_iff_not] at h1
  have hjl:j=A.length:=by omega
  subst hjl
  rw [show (ofPl A).take A.length=ofPl A from List.take_of_length_le (by rw [ofPl_len];omega)]
  (repeat (first|refine gO rfl ?_|(refine gM zM44 fun K1 hK1=>?_;simp only [go_sem,↓reduceIte,reduceCtorEq,nA,nB,nC,nD,nE,nF]<;>and_intros)))
  have hw:=(g_tallies (ofPl A) ⟨h.H,upd h.T k (some (.tail A.length))⟩ hp (by rw [ofPl_len];omega)).weakArgs (args':=[.row 2 ((ofPl A).map encStep) (some k)]) rfl (fun j a b=>by
   match j,a with
   | 0,_=>exact Weak.row _ _ _)
  refine hw.mono ?_
  rintro _ h2 ⟨m,ks,f,rfl,hT⟩
  refine hK1 _ ?_;clear hK1 K1 hw
  (repeat (first|refine gO rfl ?_|(refine gM zM44 fun K1 hK1=>?_;simp only [go_sem,↓reduceIte,reduceCtorEq,nA,nB,nC,nD,nE,nF]<;>and_intros<;>(apply hK1;clear hK1 K1))))
  simp only [Tryz.results98,go_sem,↓reduceIte,reduceCtorEq,nA,nB,nC,nD,nE,nF]
  exact ⟨_,_,Weak.refl _,Hp.le.refl _,m,ks,f,rfl,hT⟩
theorem mset_mem (k:ByteArray) (x:AV):∀ (es:List (ByteArray × AV)) (q:ByteArray),q∈(mset k x es).map (·.1)↔q=k∨q∈es.map (·.1)
 | [],q=>by simp [mset]
 | (p,y) :: es,q=>by
  have ih:=mset_mem k x es q
  by_cases e:p=k
  ·subst e
   simp [mset]
  ·simp only [mset,if_neg e,List.map_cons,List.mem_cons,ih]
   constructor
   ·rintro (h|h|h)
    ·exact .inr (.inl h)
    ·exact .inl h
    ·exact .inr (.inr h)
   ·rintro (h|h|h)
    ·exact .inr (.inl h)
    ·exact .inl h
    ·exact .inr (.inr h)
theorem mset_nodup (k:ByteArray) (x:AV):∀ (es:List (ByteArray × AV)),(es.map (·.1)).Nodup→((mset k x es).map (·.1)).Nodup
 | [],_=>by simp [mset]
 | (p,y) :: es,h=>by
  simp only [List.map_cons,List.nodup_cons] at h
  by_cases e:p=k
  ·subst e
   simpa [mset] using h
  ·simp only [mset,if_neg e,List.map_cons,List.nodup_cons,mset_mem]
   refine ⟨?_,mset_nodup k x es h.2⟩
   rintro (h9|h9)
   ·exact e h9
   ·exact h.1 h9
def unseenN (born:List Nat) (seen:Array Nat):Nat:=(born.filter fun b=>!seen.contains b).length
theorem unseen_push {born:List Nat} {seen:Array Nat} {b:Nat} (hb:b∈born) (hs:seen.contains b=false):unseenN born (seen.push b) < unseenN born seen:=by
 refine filter_lt (fun x=>!seen.contains x) (fun x=>!(seen.push b).contains x) (fun x hx=>?_) b (by show (!seen.contains b)=true;rw [hs];rfl) (by simp) born hb
 simp only [Array.contains_push,Bool.not_or,Bool.and_eq_true] at hx
 exact hx.1
theorem at_inj {l:List Nat} (hn:l.Nodup) {i j:Nat} (hi:i < l.length) (hj:j < l.length) (e:l[i]=l[j]):i=j:=by
 rcases Nat.lt_trichotomy i j with h|h|h
 ·exact absurd e (List.pairwise_iff_getElem.1 hn i j hi hj h)
 ·exact h
 ·exact absurd e.symm (List.pairwise_iff_getElem.1 hn j i hj hi h)
def seenK (es:List (ByteArray × AV)) (born:List Nat) (seen:Array Nat) (k:ByteArray):Prop:=∃ j,j < es.length∧seen.contains (born.getD j 0)=true∧(es.getD j default).1=k
theorem seenK_none (es:List (ByteArray × AV)) (born:List Nat) (k:ByteArray):¬ seenK es born #[] k:=by
 rintro ⟨j,_,h,_⟩
 simp at h
theorem seenK_push {es:List (ByteArray × AV)} {born:List Nat} {seen:Array Nat} {j:Nat} (hj:j < es.length) (hl:born.length=es.length) (hn:born.Nodup) (k:ByteArray) :
  seenK es born (seen.push (born.getD j 0)) k↔k=(es.getD j default).1∨seenK es born seen k:=by
 constructor
 ·rintro ⟨i,hi,h,rfl⟩
  rw [Array.contains_push,Bool.or_eq_true] at h
  rcases h with h|h
  ·exact .inr ⟨i,hi,h,rfl⟩
  ·have e:born.getD i 0=born.getD j 0:=by simpa using h
   have hi2:i < born.length:=by omega
   have hj2:j < born.length:=by omega
   rw [List.getD_eq_getElem?_getD,List.getD_eq_getElem?_getD,List.getElem?_eq_getElem hi2,List.getElem?_eq_getElem hj2] at e
   have e2:i=j:=at_inj hn hi2 hj2 (by simpa using e)
   subst e2
   exact .inl rfl
 ·rintro (rfl|⟨i,hi,h,rfl⟩)
  ·exact ⟨j,hj,by simp,rfl⟩
  ·exact ⟨i,hi,by rw [Array.contains_push,h,Bool.true_or],rfl⟩
theorem seenK_all {es:List (ByteArray × AV)} {born:List Nat} {seen:Array Nat} (hl:born.length=es.length) (h:∀ b∈born,seen.contains b=true) (k:ByteArray):seenK es born seen k↔k∈es.map (·.1):=by
 constructor
 ·rintro ⟨j,hj,_,rfl⟩
  rw [List.getD_eq_getElem?_getD,List.getElem?_eq_getElem hj]
  exact List.mem_map.2 ⟨_,List.getElem_mem hj,rfl⟩
 ·intro hk
  obtain ⟨x,hx,rfl⟩:=List.mem_map.1 hk
  obtain ⟨j,hj,rfl⟩:=List.getElem_of_mem hx
  refine ⟨j,hj,h _ ?_,?_⟩
  ·rw [List.getD_eq_getElem?_getD,List.getElem?_eq_getElem (by omega)]
   exact List.getElem_mem _
  ·rw [List.getD_eq_getElem?_getD,List.getElem?_eq_getElem hj];rfl
def Ext (h h':Hp):Prop:=∀ x,h.H x≠none→h'.H x=h.H x
theorem Ext.refl (h:Hp):Ext h h:=fun _ _=>rfl
theorem Ext.at {h h':Hp} (e:Ext h h') {x:Nat} {o:AO} (hx:h.H x=some o):h'.H x=some o:=(e x (by rw [hx];simp)).trans hx
theorem Ext.trans {a b c:Hp} (h:Ext a b) (k:Ext b c):Ext a c:=fun x hx=>(k x (by rw [h x hx];exact hx)).trans (h x hx)
theorem TalI.ext {h h':Hp} {m:Nat} {ys:List (ByteArray × Int)} {S ks:List ByteArray} {f:ByteArray→Nat} (t:TalI h m ys S ks f) (e:Ext h h'):TalI h' m ys S ks f :=
 ⟨t.nd,t.mem,e.at t.map,fun k hk=>e.at (t.cell k hk),t.ne,t.inj⟩
theorem ptrs_fst (f:ByteArray→Nat) (ks:List ByteArray):(ptrsL f ks).map (·.1)=ks:=by
 rw [ptrsL,List.map_map];exact List.map_id _
theorem ACalls.frame {P:Program} {f:Nat} {args:List AV} {R:AV→Hp→Prop} (hc:ACalls P f args ⟨fun _=>none,fun _=>none⟩ R) (h:Hp) :
  ACalls P f args h (fun r h''=>∃ h',R r h'∧(∀ i,h.H i≠none→h''.H i=h.H i)∧(∀ i,h'.H i≠none→h''.H i=h'.H i)∧h''.T=h'.T):=by
 refine ⟨hc.ok,fun G w vs hs hl ha=>?_⟩
 have h0:Hp.le ⟨fun _=>none,fun _=>none⟩ h:=⟨fun _=>.inl rfl,fun _=>.inl rfl⟩
 refine (hc.calls G w vs (hs.less h0) hl ha).mono ?_
 rintro e w' ⟨r,h',G',v,rfl,hR,g1,f1,s1,r1⟩
 have hno:∀ b,¬ Own G ⟨fun _=>none,fun _=>none⟩ b:=by
  rintro b (⟨i,a,_⟩|⟨k,t,a,_⟩)
  ·exact a rfl
  ·exact a rfl
 have hk:=fun b hb=>f1.keep b hb (hno b)
 have hold:∀ i,h.H i≠none→∃ b,b < w.heap.size∧G.at_ i=some b∧G'.at_ i=some b:=fun i a=>by
  obtain ⟨ob,hob⟩:=Option.ne_none_iff_exists'.1 a
  obtain ⟨b,o,e1,e2,_⟩:=hs.obj i ob hob
  exact ⟨b,(Array.getElem?_eq_some_iff.1 e2).1,e1,g1.at_ i b e1⟩
 have hdis:∀ i,h.H i≠none→h'.H i=none:=fun i a=>by
  obtain ⟨b,hb,e1,e2⟩:=hold i a
  cases e:h'.H i with
  | none=>rfl
  | some x=>exact absurd (.inl ⟨i,by rw [e];simp,e2⟩) (hk b hb).2.1
 refine ⟨r,⟨fun i=>match h.H i with|some x=>some x|none=>h'.H i,h'.T⟩,G',v,rfl,⟨h',hR,fun i a=>?_,fun i a=>?_,rfl⟩,g1,?_,?_,r1⟩
 ·obtain ⟨ob,hob⟩:=Option.ne_none_iff_exists'.1 a
  simp [hob]
 ·cases e:h.H i with
  | none=>simp [e]
  | some x=>exact absurd (hdis i (by rw [e];simp)) a
 ·refine ⟨f1.os,f1.tape,f1.output,f1.size,fun b hb hn=>?_⟩
  obtain ⟨x,y,z⟩:=hk b hb
  refine ⟨x,?_,z⟩
  rintro (⟨i,a,c⟩|⟨k,t,a,c⟩)
  ·by_cases e:h.H i=none
   ·simp only [e] at a
    exact y (.inl ⟨i,a,c⟩)
   ·obtain ⟨b2,hb2,e1,e2⟩:=hold i e
    rw [c] at e2
    cases e2
    exact hn (.inl ⟨i,e,e1⟩)
  ·exact y (.inr ⟨k,t,a,c⟩)
 ·have hsplit:∀ i,(match h.H i with|some x=>some x|none=>h'.H i)≠none→(h.H i≠none∨h'.H i≠none):=fun i a=>by
   by_cases e:h.H i=none
   ·simp only [e] at a;exact .inr a
   ·exact .inl e
  have hcross:∀ i j b,h.H i≠none→h'.H j≠none→G'.at_ i=some b→G'.at_ j=some b→False:=fun i j b hi hj e1 e2=>by
   obtain ⟨b2,hb2,_,e4⟩:=hold i hi
   rw [e1] at e4
   cases e4
   exact (hk b hb2).2.1 (.inl ⟨j,hj,e2⟩)
  refine ⟨s1.val,fun i ob e=>?_,fun i j b hi hj e1 e2=>?_,s1.tok,s1.tinj,fun k i t a hi c e1=>?_,s1.fat,s1.ftl⟩
  ·cases e0:h.H i with
   | some x =>
    simp only [e0,Option.some.injEq] at e
    subst e
    obtain ⟨b,o,e1,e2,e3,e4⟩:=hs.obj i x e0
    obtain ⟨x1,y1,z1⟩:=hk b (Array.getElem?_eq_some_iff.1 e2).1
    exact ⟨b,o,g1.at_ i b e1,x1.trans e2,e3.mono g1,fun q=>(z1 q).trans (e4 q)⟩
   | none =>
    simp only [e0] at e
    exact s1.obj i ob e
  ·rcases hsplit i hi with h1|h1<;>rcases hsplit j hj with h2|h2
   ·obtain ⟨b1,_,c1,c2⟩:=hold i h1
    obtain ⟨b2,_,d1,d2⟩:=hold j h2
    rw [e1] at c2
    rw [e2] at d2
    cases c2
    cases d2
    exact hs.inj i j b h1 h2 c1 d1
   ·exact (hcross i j b h1 h2 e1 e2).elim
   ·exact (hcross j i b h2 h1 e2 e1).elim
   ·exact s1.inj i j b h1 h2 e1 e2
  ·rcases hsplit i hi with h1|h1
   ·obtain ⟨b,hb,_,e3⟩:=hold i h1
    rw [e1] at e3
    cases e3
    exact (hk _ hb).2.1 (.inr ⟨k,t,a,c,rfl⟩)
   ·exact s1.tobj k i t a h1 c e1
abbrev zP21E:List Nat:=[0,1,2,3,5,6,7,8]
abbrev zP21P:List (Nat × List Nat × List Nat):=[(4,[8],[]),(9,[],[10,11])]
attribute [go_sem] zP21E zP21P
theorem g_playedNil (d:Nat) (t:LT) (w0 w1 m:Int) (h:Hp) (hb:KC d t) (hd:manyF t≤1000000000000000∧d≤1000) :
  ACalls Tryz.prog 94 [.agg (encL t),.agg [.v (.int .i64 w0),.v (.int .i64 w1)],.v (.slice none 0 0),.v (.int .i64 m)] h
   (fun r h''=>∃ h',PlyR d t [] w0 w1 m r h'∧(∀ i,h.H i≠none→h''.H i=h.H i)∧(∀ i,h'.H i≠none→h''.H i=h'.H i)∧h''.T=h'.T) :=
 ((g_played d t [] w0 w1 m ⟨fun _=>none,fun _=>none⟩ hb hd (by simp) (by simp)).weakArgs (args':=[.agg (encL t),.agg [.v (.int .i64 w0),.v (.int .i64 w1)],.v (.slice none 0 0),.v (.int .i64 m)]) rfl (fun j a b=>by
  match j,a with
  | 0,_=>exact Weak.refl _
  | 1,_=>exact Weak.refl _
  | 2,_=>exact Weak.nil 3 0 0 ⟨rfl,rfl⟩
  | 3,_=>exact Weak.refl _)).frame h
theorem g_sumsF (A:List Pl) (ka:Option Nat) (h:Hp) (hp:Pos (ofPl A)) (hl:A.length≤3000) :
  ACalls Tryz.prog 98 [.row 4 (A.map encP) ka] h (fun r h''=>∃ m ks f,r=.map m∧TalI h'' m (ofPl A) ((ofPl A).map (·.1)) ks f∧Ext h h''):=by
 refine ((g_sums A ka ⟨fun _=>none,fun _=>none⟩ hp hl).frame h).mono ?_
 rintro r h'' ⟨h',⟨m,ks,f,rfl,hT⟩,e1,e2,_⟩
 exact ⟨m,ks,f,rfl,hT.ext e2,e1⟩
def LostR (d:Nat) (t:LT) (bs:List Wn) (w0 w1 m:Int) (r:AV):Prop :=
 (plyE d t bs w0 w1 m≠0→r=.tup [.row 5 [] none,.v (.int .i64 (plyE d t bs w0 w1 m))]) ∧
 (plyE d t bs w0 w1 m=0→∀ U O,runE (rdS d t) w0 w1 m (cutF w0 w1 bs) (0,longA (rdS d t) 0) w0=U→runE (rdS d t) w0 w1 m [] (0,longA (rdS d t) 0) w0=O →
  r=if U.length≤3000∧O.length≤3000 then .tup [.row 5 (((onceS ((rdS d t).map (·.1))).filterMap (lostK (ownP U) (allP O))).map encLo) none,.v (.int .i64 0)] else .tup [.row 5 [] none,.v (.int .i64 2)])
theorem plyE_nil {d:Nat} {t:LT} {bs:List Wn} {w0 w1 m:Int} (h:plyE d t bs w0 w1 m=0):plyE d t [] w0 w1 m=0:=by
 have h2:brkE bs=0:=by
  unfold plyE at h
  by_cases h1:faultF t=0
  ·by_cases h2:brkE bs=0
   ·exact h2
   ·simp [orI,h1,h2] at h
  ·simp [orI,h1] at h
 have h3:brkE []=0:=by simp [brkE,brkL]
 unfold plyE at h ⊢
 rwa [h2] at h
 done
theorem g_Lost (d:Nat) (t:LT) (bs:List Wn) (w0 w1 m:Int) (h:Hp) (hb:KC d t) (hd:manyF t≤1000000000000000∧d≤1000) (hbs:∀ x∈bs,WOk x) (hbl:bs.length≤1000) :
  ACalls Tryz.prog 34 [.agg (encL t),.agg [.v (.int .i64 w0),.v (.int .i64 w1)],.row 3 (bs.map encW) none,.v (.int .i64 m)] h (fun r _=>LostR d t bs w0 w1 m r):=by
 have hlen:=encL_len t
 have htk:List.take 6 (encL t)=encL t:=List.take_of_length_le (Nat.le_of_eq hlen)
 have hdk:List.drop 6 (encL t)=[]:=List.drop_of_length_le (Nat.le_of_eq hlen)
 have hpn:=fun h=>g_playedNil d t w0 w1 m h hb hd
 refine gE Tryz.func34 rfl (by kernel_rfl) 119 rfl fun c=>?_
 (repeat (first|refine gO rfl ?_|((refine gM zM45 fun K1 hK1=>?_;simp only [go_sem,↓reduceIte,reduceCtorEq,nA,nB,nC,nD,nE,nF,hlen,htk,hdk]<;>and_intros<;>first|(apply hK1;clear hK1 K1)|skip))))
 refine (g_played d t bs w0 w1 m _ hb hd hbs hbl).mono ?_
 rintro r h2 ⟨p1,p2⟩
 refine hK1 _ ?_;clear hK1 K1
 have hok:=fun e=>plyE_ok (d:=d) (t:=t) (bs:=bs) (w0:=w0) (w1:=w1) (m:=m) hb e
 unfold LostR
 by_cases he:plyE d t bs w0 w1 m=0
 ·obtain ⟨hg,⟨hbk,hbl5⟩,hw,hm⟩:=hok he
  have hen:=plyE_nil he
  obtain ⟨U,hU⟩:∃ U,runE (rdS d t) w0 w1 m (cutF w0 w1 bs) (0,longA (rdS d t) 0) w0=U:=⟨_,rfl⟩
  obtain ⟨O,hO⟩:∃ O,runE (rdS d t) w0 w1 m [] (0,longA (rdS d t) 0) w0=O:=⟨_,rfl⟩
  have hR:=run_facts hg hw.2.1 hw.1 hbk hU
  have hRO:=run_facts (bs:=[]) hg hw.2.1 hw.1 trivial hO
  obtain ⟨hA1,hA2,hA3⟩:=run_all hO
  obtain ⟨q1,q2⟩:=p2 he U hU
  rw [hU,hO,he]
  clear p1 p2 hok
  by_cases hl:3000 < U.length
  ·rw [q1 hl]
   clear q1 q2 hpn
   (repeat (first|refine gO rfl ?_|((refine gM zM45 fun K1 hK1=>?_;simp only [go_sem,↓reduceIte,reduceCtorEq,nA,nB,nC,nD,nE,nF]<;>and_intros<;>(apply hK1;clear hK1 K1)))))
   refine awp_cond (t:=_) rfl (fun _=>?_) (fun h9=>by cases h9)
   (repeat (first|refine gO rfl ?_|((refine gM zM45 fun K1 hK1=>?_;simp only [go_sem,↓reduceIte,reduceCtorEq,nA,nB,nC,nD,nE,nF]<;>and_intros<;>(apply hK1;clear hK1 K1)))))
   simp only [Tryz.results34,go_sem,↓reduceIte,reduceCtorEq,nA,nB,nC,nD,nE,nF]
   exact ⟨_,_,Weak.tup1 (Weak.nil 5 0 0 ⟨rfl,rfl⟩) (Weak.refl _),Hp.le.refl _,fun h9=>absurd trivial h9,fun _ _ e e2=>by subst e e2;rw [if_neg (by omega)]⟩
  ·obtain ⟨i,ka,kb,s,half,n,rfl,hp⟩:=q2 (by omega)
   clear q1 q2
   (repeat (first|refine gO rfl ?_|((refine gM zM45 fun K1 hK1=>?_;simp only [go_sem,↓reduceIte,reduceCtorEq,nA,nB,nC,nD,nE,nF]<;>and_intros<;>(apply hK1;clear hK1 K1)))))
   refine awp_cond (t:=_) rfl (fun h9=>by cases h9) (fun _=>?_)
   (repeat (first|refine gO rfl ?_|((refine gM zM45 fun K1 hK1=>?_;simp only [go_sem,↓reduceIte,reduceCtorEq,nA,nB,nC,nD,nE,nF,hlen,htk,hdk]<;>and_intros))))
   refine (hpn _).mono ?_
   rintro r h3 ⟨h3',⟨_,p2⟩,x1,x2,_⟩
   refine hK1 _ ?_;clear hK1 K1 hpn
   obtain ⟨q1,q2⟩:=p2 hen O hO
   clear p2
   by_cases hl2:3000 < O.length
   ·rw [q1 hl2]
    clear q1 q2
    (repeat (first|refine gO rfl ?_|((refine gM zM45 fun K1 hK1=>?_;simp only [go_sem,↓reduceIte,reduceCtorEq,nA,nB,nC,nD,nE,nF]<;>and_intros<;>(apply hK1;clear hK1 K1)))))
    refine awp_cond (t:=_) rfl (fun _=>?_) (fun h9=>by cases h9)
    (repeat (first|refine gO rfl ?_|((refine gM zM45 fun K1 hK1=>?_;simp only [go_sem,↓reduceIte,reduceCtorEq,nA,nB,nC,nD,nE,nF]<;>and_intros<;>(apply hK1;clear hK1 K1)))))
    simp only [Tryz.results34,go_sem,↓reduceIte,reduceCtorEq,nA,nB,nC,nD,nE,nF]
    exact ⟨_,_,Weak.tup1 (Weak.nil 5 0 0 ⟨rfl,rfl⟩) (Weak.refl _),Hp.le.refl _,fun h9=>absurd trivial h9,fun _ _ e e2=>by subst e e2;rw [if_neg (by omega)]⟩
   ·obtain ⟨i2,ka2,kb2,s2,half2,n2,rfl,hp2⟩:=q2 (by omega)
    clear q1 q2
    have hp3:=(x1 i (by rw [hp];simp)).trans hp
    have hp4:=(x2 i2 (by rw [hp2];simp)).trans hp2
    have hol:=ownF_len U
    have hol2:=ownF_len O
    have hs1:=fun h=>g_sumsF (ownF U) (some ka) h hR.own (by omega)
    have hs2:=fun h=>g_sumsF (ownF O) (some ka2) h hRO.own (by omega)
    clear hp hp2 x1 x2
    unfold plC at hp3 hp4
    (repeat (first|refine gO rfl ?_|((refine gM zM45 fun K1 hK1=>?_;simp only [go_sem,↓reduceIte,reduceCtorEq,nA,nB,nC,nD,nE,nF]<;>and_intros<;>(apply hK1;clear hK1 K1)))))
    refine awp_cond (t:=_) rfl (fun h9=>by cases h9) (fun _=>?_)
    (repeat (first|refine gO rfl ?_|((first|refine gM zM45 ?_|((with_reducible refine xS ?_);refine uD 7 zM45 zP21E zP21P 123 rfl (by kernel_rfl) ?_))<;>((try with_reducible intro K1 hK1);simp only [go_sem,↓reduceIte,reduceCtorEq,nA,nB,nC,nD,nE,nF,hp3,hp4]<;>and_intros<;>first|(apply hK1;clear hK1 K1)|skip))))
    refine (hs1 _).mono ?_
    rintro _ h4 ⟨m1,ks1,f1,rfl,hT1,x3⟩
    refine hK1 _ ?_;clear hK1 K1
    have hp5:=x3.at hp4
    have hp6:=x3.at hp3
    (repeat ((((with_reducible refine wM ?_ ?_))<;>((try with_reducible intro K1 hK1);simp only [go_sem,↓reduceIte,reduceCtorEq,nA,nB,nC,nD,nE,nF,hp5,hp6]<;>and_intros<;>first|(apply hK1;clear hK1 K1)|(intros;(decide))|skip))))
    ·rfl
    ·rfl
    (repeat (((refine gM zM45 fun K1 hK1=>?_;simp only [go_sem,↓reduceIte,reduceCtorEq,nA,nB,nC,nD,nE,nF,hp5,hp6]<;>and_intros))))
    refine (hs2 _).mono ?_
    rintro _ h5 ⟨m2,ks2,f2,rfl,hT2,x4⟩
    refine hK1 _ ?_;clear hK1 K1
    have hT1:=hT1.ext x4
    clear x3 x4 hp3 hp4 hp5 hp6 hs1 hs2
    (repeat (first|refine gO rfl ?_|((first|refine gM zM45 ?_|(with_reducible refine wM ?_ ?_))<;>((try with_reducible intro K1 hK1);simp only [go_sem,↓reduceIte,reduceCtorEq,nA,nB,nC,nD,nE,nF]<;>and_intros<;>first|(apply hK1;clear hK1 K1)|skip))))
    intro mi hmi
    refine hK1 _ ?_;clear hK1 K1
    have r0:[[AV.map m1],[AV.map m2]].getD 0 []=[AV.map m1]:=rfl
    have r1:[[AV.map m1],[AV.map m2]].getD 1 []=[AV.map m2]:=rfl
    have rl2:[[AV.map m1],[AV.map m2]].length=2:=rfl
    have hN1:∀ k,k∈(ptrsL f1 ks1).map (·.1)↔k∈(ownP U).map (·.1):=fun k=>by rw [ptrs_fst];exact hT1.mem k
    have hN2:∀ k,k∈(ptrsL f2 ks2).map (·.1)↔k∈(ownP O).map (·.1):=fun k=>by rw [ptrs_fst];exact hT2.mem k
    have hM1:=hT1.map
    have hM2:=hT2.map
    generalize hes1:ptrsL f1 ks1=es1 at hN1 hM1
    generalize hes2:ptrsL f2 ks2=es2 at hN2 hM2
    generalize hN1':(ownP U).map (·.1)=N1 at hN1
    generalize hN2':(ownP O).map (·.1)=N2 at hN2
    (repeat (first|refine gO rfl ?_|((refine gM zM45 fun K1 hK1=>?_;simp only [go_sem,↓reduceIte,reduceCtorEq,nA,nB,nC,nD,nE,nF]<;>and_intros<;>first|(apply hK1;clear hK1 K1)|(intros;(decide))))))
    generalize [[AV.map m1],[AV.map m2]]=R at r0 r1 rl2 ⊢
    have hx0:Ext h5 ⟨upd h5.H mi (some (.map [])),h5.T⟩:=fun x hx=>upd_other _ _ (fun e=>hx (by rw [e];exact hmi))
    refine awp_loopC (rl false [13,3,44,3,60]) 0 (fun g s=>∃ (j:Nat) (ei:List (ByteArray × AV)) (h6:Hp),g+j=2∧Ext h5 h6∧h6.H mi=some (.map ei)∧(∀ k,k∈ei.map (·.1)↔(0 < j∧k∈N1)∨(1 < j∧k∈N2))∧(ei.map (·.1)).Nodup ∧
     s=⟨((jnk 13 ((.map m1) :: (.map m2) :: (.map mi) :: (jnk 44 ((.row 1 R none) :: (.v (.int .i64 2)) :: (.v (.int .i64 j)) :: (jnk 60 [])))))),[],h6⟩) 2 ⟨0,[],_,rfl,hx0,upd_same _ _ _,fun k=>by simp,by simp,rfl⟩ ?_
    rintro g _ ⟨j,ei,h6,hj,hx,hmi6,hei,hnd,rfl⟩
    (repeat (first|refine gO rfl ?_|((refine gM zM45 fun K1 hK1=>?_;simp only [go_sem,↓reduceIte,reduceCtorEq,nA,nB,nC,nD,nE,nF]<;>and_intros<;>(apply hK1;clear hK1 K1)))))
    refine awp_cond (t:=_) rfl (fun h1=>?_) (fun h1=>?_)
    ·simp only [decide_eq_true_eq] at h1
     have hmE:∃ m' es ns,R.getD j []=[AV.map m']∧h5.H m'=some (.map es)∧(∀ k,k∈es.map (·.1)↔k∈ns)∧(j=0∧ns=N1∨j=1∧ns=N2):=by
      have hjc:j=0∨j=1:=by omega
      rcases hjc with rfl|rfl
      ·exact ⟨m1,es1,N1,r0,hM1,hN1,.inl ⟨rfl,rfl⟩⟩
      ·exact ⟨m2,es2,N2,r1,hM2,hN2,.inr ⟨rfl,rfl⟩⟩
     obtain ⟨m',es,ns,gx,hMm,hNm,hns⟩:=hmE
     have hMm6:=hx.at hMm
     have hjl:j < R.length:=by omega
     have hmm:m'≠mi:=fun e=>by rw [e,hmi] at hMm;cases hMm
     (repeat (first|refine gO rfl ?_|((refine gM zM45 fun K1 hK1=>?_;simp only [go_sem,↓reduceIte,reduceCtorEq,nA,nB,nC,nD,nE,nF,Int.toNat_natCast,gx,rl2,hMm6]<;>and_intros<;>first|(apply hK1;clear hK1 K1)|(intros;(omega))|skip))))
     rintro it born clock hit ⟨b1,b2,b3,b4⟩
     refine hK1 _ ?_;clear hK1 K1
     have him:it≠m':=fun e=>by rw [e,hMm6] at hit;cases hit
     have himi:it≠mi:=fun e=>by rw [e,hmi6] at hit;cases hit
     (repeat ((refine gO rfl ?_)))
     refine awp_loopC (rl false [13,3,44,3,4,1,55]) 0 (fun g2 s=>∃ (seen:Array Nat) (ei2:List (ByteArray × AV)) (h7:Hp),g2=unseenN born seen∧(∀ x,x≠m'→h5.H x≠none→h7.H x=h5.H x)∧h7.H m'=some (.mapS es born clock)∧h7.H it=some (.iter m' clock seen clock)∧h7.H mi=some (.map ei2) ∧
       (∀ k,k∈ei2.map (·.1)↔k∈ei.map (·.1)∨seenK es born seen k)∧(ei2.map (·.1)).Nodup ∧
      s=⟨((jnk 13 ((.map m1) :: (.map m2) :: (.map mi) :: (jnk 44 ((.row 1 R none) :: (.v (.int .i64 2)) :: (.v (.int .i64 j)) :: (jnk 4 ((.ptr it 0) :: (jnk 55 [])))))))),[],h7⟩) (unseenN born #[])
      ⟨#[],ei,_,rfl,fun x hxm hx5=>?_,(upd_other _ _ (Ne.symm him)).trans (upd_same _ _ _),upd_same _ _ _,((upd_other _ _ (Ne.symm himi)).trans (upd_other _ _ (Ne.symm hmm))).trans hmi6,fun k=>⟨.inl,fun h9=>h9.resolve_right (seenK_none _ _ _)⟩,hnd,rfl⟩ ?_
     ·have hxi:x≠it:=fun e=>by
       have:=hx x hx5
       rw [e,hit] at this
       rw [e] at hx5
       exact hx5 this.symm
      exact ((upd_other _ _ hxi).trans (upd_other _ _ hxm)).trans (hx x hx5)
     rintro g2 _ ⟨seen,ei2,h7,rfl,hx7,hm7,hi7,hmi7,hei2,hnd2,rfl⟩
     (repeat (((refine gM zM45 fun K1 hK1=>?_;simp only [go_sem,↓reduceIte,reduceCtorEq,nA,nB,nC,nD,nE,nF,hi7,hm7]<;>and_intros<;>first|(intros;(omega))|skip))))
     ·exact b4
     ·intro hall
      refine hK1 _ ?_;clear hK1 K1
      refine awp_unS m' hm7 ?_
      refine awp_seq ?_
      refine awp_cond (t:=_) rfl (fun h9=>by cases h9) (fun _=>?_)
      (repeat (first|refine gO rfl ?_|((refine gM zM45 fun K1 hK1=>?_;simp only [go_sem,↓reduceIte,reduceCtorEq,nA,nB,nC,nD,nE,nF]<;>and_intros<;>first|(apply hK1;clear hK1 K1)|(intros;(omega))))))
      refine ⟨g - 1,by omega,j+1,ei2,_,by omega,fun x hx5=>?_,(upd_other _ _ (Ne.symm hmm)).trans hmi7,fun k=>?_,hnd2,rfl⟩
      ·by_cases e:x=m'
       ·rw [e]
        exact (upd_same _ _ _).trans hMm.symm
       ·exact (upd_other _ _ e).trans (hx7 x e hx5)
      ·rw [hei2,hei,seenK_all b1 hall,hNm]
       rcases hns with ⟨rfl,rfl⟩|⟨rfl,rfl⟩<;>simp
     ·rintro jj ⟨hjj,hsn⟩
      refine hK1 _ ?_;clear hK1 K1
      have hit5:h5.H it=none:=by
       cases e:h5.H it with
       | none=>rfl
       | some o=>have:=hx.at e;rw [hit] at this;cases this
      have hbj:born.getD jj 0∈born:=by
       rw [List.getD_eq_getElem?_getD,List.getElem?_eq_getElem (by omega)]
       exact List.getElem_mem _
      have hm8:∀ X,upd h7.H it X m'=some (AO.mapS es born clock):=fun X=>(upd_other _ _ (Ne.symm him)).trans hm7
      have hi8:∀ X,upd h7.H it X it=X:=fun X=>upd_same _ _ _
      have hmi8:∀ X,upd h7.H it X mi=some (AO.map ei2):=fun X=>(upd_other _ _ (Ne.symm himi)).trans hmi7
      have hbk9:(seen.push (born.getD jj 0)).back?=some (born.getD jj 0):=by simp
      (repeat ((refine gO rfl ?_)))
      refine awp_cond (t:=_) rfl (fun _=>?_) (fun h9=>by cases h9)
      (repeat (first|refine gO rfl ?_|((refine gM zM45 fun K1 hK1=>?_;simp only [go_sem,↓reduceIte,reduceCtorEq,nA,nB,nC,nD,nE,nF,hm8,hi8]<;>and_intros))))
      refine ⟨jj,⟨hjj,hbk9⟩,hK1 _ ?_⟩;clear hK1 K1
      (repeat (first|refine gO rfl ?_|((refine gM zM45 fun K1 hK1=>?_;simp only [go_sem,↓reduceIte,reduceCtorEq,nA,nB,nC,nD,nE,nF,hmi8]<;>and_intros<;>(apply hK1;clear hK1 K1)))))
      refine ⟨_,unseen_push hbj hsn,seen.push (born.getD jj 0),mset (es.getD jj default).1 (.v (.bool true)) ei2,_,rfl,fun x hxm hx5=>?_,(upd_other _ _ hmm).trans (hm8 _),(upd_other _ _ himi).trans (hi8 _),upd_same _ _ _,fun k=>?_,mset_nodup _ _ _ hnd2,rfl⟩
      ·have h1i:x≠it:=fun e=>hx5 (by rw [e];exact hit5)
       have h1m:x≠mi:=fun e=>hx5 (by rw [e];exact hmi)
       exact ((upd_other _ _ h1m).trans (upd_other _ _ h1i)).trans (hx7 x hxm hx5)
      ·rw [mset_mem,hei2,seenK_push hjj b1 b2]
       constructor
       ·rintro (h9|h9|h9)
        ·exact .inr (.inl h9)
        ·exact .inl h9
        ·exact .inr (.inr h9)
       ·rintro (h9|h9|h9)
        ·exact .inr (.inl h9)
        ·exact .inl h9
        ·exact .inr (.inr h9)
    ·simp only [decide_eq_false_iff_not] at h1
     have hj2:j=2:=by omega
     subst hj2
     have hT1:=hT1.ext hx
     have hT2:=hT2.ext hx
     have hmem:∀ k,k∈ei.map (·.1)↔k∈N1++N2:=fun k=>by rw [hei,List.mem_append];simp
     have hl1:N1.length≤3000:=by rw [← hN1',List.length_map];have:=ownP_len U;omega
     have hl3:N2.length≤3000:=by rw [← hN2',List.length_map];have:=ownP_len O;omega
     have hsz:∀ k∈ei.map (·.1),k.size≤1000000:=fun k hk=>by
      have hin:k∈(rdS d t).map (·.1):=by
       rcases List.mem_append.1 ((hmem k).1 hk) with h9|h9
       ·rw [← hN1'] at h9
        obtain ⟨x,hx9,rfl⟩:=List.mem_map.1 h9
        exact hR.item x hx9
       ·rw [← hN2'] at h9
        obtain ⟨x,hx9,rfl⟩:=List.mem_map.1 h9
        exact hRO.item x hx9
      obtain ⟨x,hx9,rfl⟩:=List.mem_map.1 hin
      have:=hg.item x hx9
      omega
     have hel:ei.length≤100000:=by
      have h9:=nodup_len (ei.map (·.1)) (N1++N2) hnd (fun k hk=>(hmem k).1 hk)
      rw [List.length_map,List.length_append] at h9
      omega
     clear hei hnd hj h1 hx0 r0 r1 rl2 hM1 hM2 hN1 hN2
     (repeat (first|refine gQ rfl ?_|((refine gM zM45 fun K1 hK1=>?_;simp only [go_sem,↓reduceIte,reduceCtorEq,nA,nB,nC,nD,nE,nF]<;>and_intros<;>(apply hK1;clear hK1 K1)))))
     refine awp_seq ?_
     refine awp_own 19 5 rfl ⟨rfl,rfl⟩ (fun kk hkk=>?_)
     (repeat (((refine gM zM45 fun K1 hK1=>?_;simp only [go_sem,↓reduceIte,reduceCtorEq,nA,nB,nC,nD,nE,nF]<;>and_intros))))
     refine (g_keysB mi _).mono ?_
     rintro _ h7 ⟨ib,hib,rfl,rfl⟩
     refine hK1 _ ?_;clear hK1 K1
     replace hib:h6.H ib=none:=hib
     have hibm:ib≠mi:=fun e=>by rw [e,hmi6] at hib;cases hib
     (repeat (((refine gM zM45 fun K1 hK1=>?_;simp only [go_sem,↓reduceIte,reduceCtorEq,nA,nB,nC,nD,nE,nF]<;>and_intros))))
     refine (g_sortedB ib mi ei (N1++N2) _ (upd_same _ _ _) ((upd_other _ _ (Ne.symm hibm)).trans hmi6) hmem hsz hel).mono ?_;rintro _ hz ⟨rfl,hh⟩;apply hK1;clear hK1 K1;rw [hh];clear hh hz
     have hx8:∀ T,Ext h6 ⟨upd h6.H ib (some (.cells [.map mi])),T⟩:=fun T x hx=>upd_other _ _ (fun e=>hx (by rw [e];exact hib))
     have hT1:∀ T,TalI ⟨upd h6.H ib (some (.cells [.map mi])),T⟩ m1 (ownP U) ((ownP U).map (·.1)) ks1 f1:=fun T=>hT1.ext (hx8 T)
     have hT2:∀ T,TalI ⟨upd h6.H ib (some (.cells [.map mi])),T⟩ m2 (allP O) ((allP O).map (·.1)) ks2 f2:=fun T=>by rw [← hA1];exact hT2.ext (hx8 T)
     have hsame:(onceS (N1++N2)).filterMap (lostK (ownP U) (allP O))=(onceS ((rdS d t).map (·.1))).filterMap (lostK (ownP U) (allP O)):=lost_same (fun k=>by rw [List.mem_append,hN1',← hA1,hN2']) (fun k hk=>by
      rcases List.mem_append.1 hk with h9|h9
      ·rw [← hN1'] at h9
       obtain ⟨x,hx9,rfl⟩:=List.mem_map.1 h9
       exact hR.item x hx9
      ·rw [← hN2'] at h9
       obtain ⟨x,hx9,rfl⟩:=List.mem_map.1 h9
       exact hRO.item x hx9)
     have hNl:(onceS (N1++N2)).length≤6000:=by
      have h9:=onceS_len (N1++N2)
      rw [List.length_append] at h9
      omega
     have hpU:=hR.own
     have hpO:Pos (allP O):=by rw [← hA1];exact hRO.own
     have hUl:(ownP U).length≤3000:=by have:=ownP_len U;omega
     have hOl:(allP O).length≤3000:=by rw [allP_len];omega
     clear hx8 hmem hsz hel hN1' hN2' hl1 hl3 hkk hibm hib hmi6 hx
     generalize upd h6.H ib (some (AO.cells [.map mi]))=H8 at *
     generalize onceS (N1++N2)=N at *
     (repeat (first|refine gO rfl ?_|((refine gM zM45 fun K1 hK1=>?_;simp only [go_sem,↓reduceIte,reduceCtorEq,nA,nB,nC,nD,nE,nF,List.length_map]<;>and_intros<;>(apply hK1;clear hK1 K1)))))
     refine awp_loopC (rl false [13,2,4,1,57,3,43]) 0 (fun g s=>∃ (j:Nat) (T9:Nat→Option TO),g+j=N.length∧T9 kk=some (.tail ((N.take j).filterMap (lostK (ownP U) (allP O))).length) ∧
      s=⟨((jnk 13 ((.map m1) :: (.map m2) :: (jnk 4 ((.row 5 (((N.take j).filterMap (lostK (ownP U) (allP O))).map encLo) (some kk)) :: (jnk 57 ((.row 1 (N.map encS) none) :: (.v (.int .i64 N.length)) :: (.v (.int .i64 j)) :: (jnk 43 [])))))))),[],⟨H8,T9⟩⟩) N.length ⟨0,_,by omega,upd_same _ _ _,rfl⟩ ?_
     rintro g _ ⟨j,T9,hj,hT9,rfl⟩
     have hlo:(((N.take j).filterMap (lostK (ownP U) (allP O))).map encLo).length=((N.take j).filterMap (lostK (ownP U) (allP O))).length:=List.length_map _
     have hlb:((N.take j).filterMap (lostK (ownP U) (allP O))).length≤6000:=by
      have h1:=List.length_filterMap_le (lostK (ownP U) (allP O)) (N.take j)
      have h2:=List.length_take_le j N
      omega
     (repeat (first|refine gO rfl ?_|((refine gM zM45 fun K1 hK1=>?_;simp only [go_sem,↓reduceIte,reduceCtorEq,nA,nB,nC,nD,nE,nF]<;>and_intros<;>(apply hK1;clear hK1 K1)))))
     refine awp_cond (t:=_) rfl (fun h1=>?_) (fun h1=>?_)
     ·simp only [decide_eq_true_eq] at h1
      have hjl:j < N.length:=by omega
      have gx:(N.map encS).getD j []=encS (N.getD j default):=getD_enc encS N j default hjl
      have tx:(N.take (j+1)).filterMap (lostK (ownP U) (allP O))=(N.take j).filterMap (lostK (ownP U) (allP O))++(lostK (ownP U) (allP O) (N.getD j default)).toList:=by
       rw [take_snoc N j default hjl,List.filterMap_append,filterMap_one]
      generalize N.getD j default=q at gx tx
      generalize (N.take j).filterMap (lostK (ownP U) (allP O))=L at *
      have hq1:((cntF (allP O) q:Nat):Int)≤3000:=by have:=cntF_le (allP O) q;omega
      have hq2:((cntF (ownP U) q:Nat):Int)≤3000:=by have:=cntF_le (ownP U) q;omega
      have hq3:=longF_bd hpO q
      have hq4:=longF_bd hpU q
      unfold lostK at tx
      have hin2:q∈ks2→H8 (f2 q)=some (.cells [.v (.int .i64 (cntF (allP O) q:Nat)),.v (.int .i64 (longF (allP O) q))]):=fun hq=>(hT2 T9).cell q hq
      have hin1:q∈ks1→H8 (f1 q)=some (.cells [.v (.int .i64 (cntF (ownP U) q:Nat)),.v (.int .i64 (longF (ownP U) q))]):=fun hq=>(hT1 T9).cell q hq
      have hno2:q ∉ ks2→((cntF (allP O) q:Nat):Int)=0∧longF (allP O) q=0:=fun hq=>by
       obtain ⟨z1,z2⟩:=longF_zero (fun e=>hq (((hT2 T9).mem q).2 e))
       rw [z1,z2];exact ⟨rfl,rfl⟩
      have hno1:q ∉ ks1→((cntF (ownP U) q:Nat):Int)=0∧longF (ownP U) q=0:=fun hq=>by
       obtain ⟨z1,z2⟩:=longF_zero (fun e=>hq (((hT1 T9).mem q).2 e))
       rw [z1,z2];exact ⟨rfl,rfl⟩
      have hM1:H8 m1=some (.map (ptrsL f1 ks1)):=(hT1 T9).map
      have hM2:H8 m2=some (.map (ptrsL f2 ks2)):=(hT2 T9).map
      have hg1:=mget_ptrs f1 ks1 q
      have hg2:=mget_ptrs f2 ks2 q
      clear hT1 hT2 hpU hpO
      have hq5:(0:Int)≤(cntF (allP O) q:Nat):=by omega
      have hq6:(0:Int)≤(cntF (ownP U) q:Nat):=by omega
      generalize ((cntF (allP O) q:Nat):Int)=cO at *
      generalize ((cntF (ownP U) q:Nat):Int)=cW at *
      generalize longF (allP O) q=lO at *
      generalize longF (ownP U) q=lW at *
      (repeat ((refine gQ rfl ?_)))
      refine awp_seq ?_
      refine awp_block ?_
      (repeat (first|refine gQ rfl ?_|((refine gM zM45 fun K1 hK1=>?_;simp only [go_sem,↓reduceIte,reduceCtorEq,nA,nB,nC,nD,nE,nF,Int.toNat_natCast,gx,encS,List.length_map,hjl]<;>and_intros<;>first|(apply hK1;clear hK1 K1)|(intros;(omega))))))
      refine awp_seq ?_
      refine awp_join (rl false [13,2,4,1,1,3,53,3,43]) 2 (fun s=>s=⟨((jnk 13 ((.map m1) :: (.map m2) :: (jnk 4 ((.row 5 (L.map encLo) (some kk)) :: AV.junk :: ((.v (.string q)) :: (.loc 0 0) :: (.loc 1 0) :: (jnk 53 ((.row 1 (N.map encS) none) :: (.v (.int .i64 N.length)) :: (.v (.int .i64 j)) :: (jnk 43 []))))))))),[[.v (.int .i64 cO),.v (.int .i64 lO)],[.v (.int .i64 0),.v (.int .i64 0)]],⟨H8,T9⟩⟩) ?_ ?_
      ·by_cases hq:q∈ks2
       ·have hC:=hin2 hq
        have hG:=hg2.1 hq
        clear hin1 hin2 hno1 hno2 hg1 hg2
        (repeat (first|refine gO rfl ?_|((refine gM zM45 fun K1 hK1=>?_;simp only [go_sem,↓reduceIte,reduceCtorEq,nA,nB,nC,nD,nE,nF,hM2,hG]<;>and_intros<;>(apply hK1;clear hK1 K1)))))
        refine awp_cond (t:=_) rfl (fun _=>?_) (fun h9=>by cases h9)
        (repeat (first|refine gO rfl ?_|((refine gM zM45 fun K1 hK1=>?_;simp only [go_sem,↓reduceIte,reduceCtorEq,nA,nB,nC,nD,nE,nF,hC]<;>and_intros<;>(apply hK1;clear hK1 K1)))))
        rfl
       ·have hG:=hg2.2 hq
        obtain ⟨rfl,rfl⟩:=hno2 hq
        clear hin1 hin2 hno1 hno2 hg1 hg2
        (repeat (first|refine gO rfl ?_|((refine gM zM45 fun K1 hK1=>?_;simp only [go_sem,↓reduceIte,reduceCtorEq,nA,nB,nC,nD,nE,nF,hM2,hG]<;>and_intros<;>(apply hK1;clear hK1 K1)))))
        refine awp_cond (t:=_) rfl (fun h9=>by cases h9) (fun _=>?_)
        (repeat ((refine gO rfl ?_)))
        rfl
      rintro _ rfl
      refine awp_seq ?_
      refine awp_join (rl false [13,2,4,1,1,3,53,3,43]) 2 (fun s=>s=⟨((jnk 13 ((.map m1) :: (.map m2) :: (jnk 4 ((.row 5 (L.map encLo) (some kk)) :: AV.junk :: ((.v (.string q)) :: (.loc 0 0) :: (.loc 1 0) :: (jnk 53 ((.row 1 (N.map encS) none) :: (.v (.int .i64 N.length)) :: (.v (.int .i64 j)) :: (jnk 43 []))))))))),[[.v (.int .i64 cO),.v (.int .i64 lO)],[.v (.int .i64 cW),.v (.int .i64 lW)]],⟨H8,T9⟩⟩) ?_ ?_
      ·by_cases hq:q∈ks1
       ·have hC:=hin1 hq
        have hG:=hg1.1 hq
        clear hin1 hin2 hno1 hno2 hg1 hg2
        (repeat (first|refine gO rfl ?_|((refine gM zM45 fun K1 hK1=>?_;simp only [go_sem,↓reduceIte,reduceCtorEq,nA,nB,nC,nD,nE,nF,hM1,hG]<;>and_intros<;>(apply hK1;clear hK1 K1)))))
        refine awp_cond (t:=_) rfl (fun _=>?_) (fun h9=>by cases h9)
        (repeat (first|refine gO rfl ?_|((refine gM zM45 fun K1 hK1=>?_;simp only [go_sem,↓reduceIte,reduceCtorEq,nA,nB,nC,nD,nE,nF,hC]<;>and_intros<;>(apply hK1;clear hK1 K1)))))
        rfl
       ·have hG:=hg1.2 hq
        obtain ⟨rfl,rfl⟩:=hno1 hq
        clear hin1 hin2 hno1 hno2 hg1 hg2
        (repeat (first|refine gO rfl ?_|((refine gM zM45 fun K1 hK1=>?_;simp only [go_sem,↓reduceIte,reduceCtorEq,nA,nB,nC,nD,nE,nF,hM1,hG]<;>and_intros<;>(apply hK1;clear hK1 K1)))))
        refine awp_cond (t:=_) rfl (fun h9=>by cases h9) (fun _=>?_)
        (repeat ((refine gO rfl ?_)))
        rfl
      rintro _ rfl
      clear hin1 hin2 hno1 hno2 hg1 hg2
      (repeat (first|refine gO rfl ?_|((refine gM zM45 fun K1 hK1=>?_;simp only [go_sem,↓reduceIte,reduceCtorEq,nA,nB,nC,nD,nE,nF]<;>and_intros<;>(apply hK1;clear hK1 K1)))))
      by_cases hd:cO - cW≠0∨lO - lW≠0
      ·rw [if_pos hd] at tx
       replace tx:List.filterMap (lostK (ownP U) (allP O)) (N.take (j+1))=L++[(q,cO - cW,lO - lW)]:=tx
       have hbb:(!(cO == cW && lO == lW))=true:=by
        rcases hd with hd|hd
        ·have:(cO == cW)=false:=by simp;omega
         rw [this];rfl
        ·have:(lO == lW)=false:=by simp;omega
         rw [this,Bool.and_false];rfl
       refine awp_cond (t:=_) rfl (fun _=>?_) (fun h9=>by rw [hbb] at h9;cases h9)
       (repeat (first|refine gO rfl ?_|((refine gM zM45 fun K1 hK1=>?_;simp only [go_sem,↓reduceIte,reduceCtorEq,nA,nB,nC,nD,nE,nF,hT9,hlo,upd_upd]<;>and_intros<;>first|(apply hK1;clear hK1 K1)|(intros;first|omega|decide)))))
       exact ⟨g - 1,by omega,j+1,upd T9 kk (some (.tail (L.length+1))),by omega,by rw [tx,List.length_append];exact upd_same _ _ _,by rw [tx,List.map_append];rfl⟩
      ·rw [if_neg hd] at tx
       have hbb:(!(cO == cW && lO == lW))=false:=by
        have h5:cO=cW:=by omega
        have h6:lO=lW:=by omega
        subst h5 h6
        simp
       replace tx:List.filterMap (lostK (ownP U) (allP O)) (N.take (j+1))=L:=tx.trans (List.append_nil L)
       refine awp_cond (t:=_) rfl (fun h9=>by rw [hbb] at h9;cases h9) (fun _=>?_)
       (repeat (first|refine gO rfl ?_|((refine gM zM45 fun K1 hK1=>?_;simp only [go_sem,↓reduceIte,reduceCtorEq,nA,nB,nC,nD,nE,nF]<;>and_intros<;>first|(apply hK1;clear hK1 K1)|(intros;(omega))))))
       exact ⟨g - 1,by omega,j+1,T9,by omega,by rw [tx];exact hT9,by rw [tx];rfl⟩
     ·simp only [decide_eq_false_iff_not] at h1
      have hjl:j=N.length:=by omega
      subst hjl
      rw [List.take_length,hsame]
      (repeat (first|refine gO rfl ?_|((refine gM zM45 fun K1 hK1=>?_;simp only [go_sem,↓reduceIte,reduceCtorEq,nA,nB,nC,nD,nE,nF]<;>and_intros<;>(apply hK1;clear hK1 K1)))))
      simp only [Tryz.results34,go_sem,↓reduceIte,reduceCtorEq,nA,nB,nC,nD,nE,nF]
      exact ⟨_,_,Weak.tup1 (Weak.row _ _ _) (Weak.refl _),Hp.le.refl _,fun h9=>absurd trivial h9,fun _ _ e e2=>by subst e e2;rw [if_pos (by omega)]⟩
 ·have hb9:(plyE d t bs w0 w1 m != 0)=true:=by simpa using he
  rw [p1 he]
  generalize plyE d t bs w0 w1 m=e at *
  clear p1 p2 hok hpn
  (repeat (first|refine gO rfl ?_|((refine gM zM45 fun K1 hK1=>?_;simp only [go_sem,↓reduceIte,reduceCtorEq,nA,nB,nC,nD,nE,nF]<;>and_intros<;>(apply hK1;clear hK1 K1)))))
  refine awp_cond (t:=_) rfl (fun _=>?_) (fun h9=>by rw [hb9] at h9;cases h9)
  (repeat (first|refine gO rfl ?_|((refine gM zM45 fun K1 hK1=>?_;simp only [go_sem,↓reduceIte,reduceCtorEq,nA,nB,nC,nD,nE,nF]<;>and_intros<;>(apply hK1;clear hK1 K1)))))
  simp only [Tryz.results34,go_sem,↓reduceIte,reduceCtorEq,nA,nB,nC,nD,nE,nF]
  exact ⟨_,_,Weak.tup1 (Weak.nil 5 0 0 ⟨rfl,rfl⟩) (Weak.refl _),Hp.le.refl _,fun _=>rfl,fun h9=>absurd h9 he⟩
theorem weak3 {a a' b b' c c':AV} (h:Weak a a') (k:Weak b b') (m:Weak c c'):∀ j,(hj:j < ([a,b,c]:List AV).length)→(hk:j < ([a',b',c']:List AV).length)→Weak ([a,b,c][j]) ([a',b',c'][j])
 | 0,_,_=>h
 | 1,_,_=>k
 | 2,_,_=>m
 | j+3,hj,_=>absurd hj (by simp)
theorem weak4 {a a' b b' c c' e e':AV} (h:Weak a a') (k:Weak b b') (m:Weak c c') (n:Weak e e'):∀ j,(hj:j < ([a,b,c,e]:List AV).length)→(hk:j < ([a',b',c',e']:List AV).length)→Weak ([a,b,c,e][j]) ([a',b',c',e'][j])
 | 0,_,_=>h
 | 1,_,_=>k
 | 2,_,_=>m
 | 3,_,_=>n
 | j+4,hj,_=>absurd hj (by simp)
theorem rt_rdE {t:LT} (h:RT 4 t):rdE 23 t=2∨rdE 23 t=0:=by
 have hf:=h.fault
 by_cases e:roundN 23 t=0
 ·exact .inl (by rw [rdE,if_pos hf,(roundS_none e).2])
 ·exact .inr (by rw [rdE,if_pos hf,(roundS_some (roundN_is e)).2.1])
theorem plyE_rd {t:LT} (h:RT 4 t) {bs:List Wn} {w0 w1 m:Int} (hb:brkE bs=0) (hw:winE w0 w1=0) (hm:m=1∨m=4):plyE 23 t bs w0 w1 m=rdE 23 t:=by
 unfold plyE
 rw [h.fault,hb,hw,if_neg (by omega)]
 rcases rt_rdE h with e|e<;>rw [e]<;>rfl
def RunTwo (xs:List (ByteArray × Int)) (bs:List Wn) (w0 w1 m:Int) (ok:Prop) (r:AV):Prop :=
 ∃ (X:List Pl) (e:Int),r=.tup [.row 4 (X.map encP) none,.v (.int .i64 e)]∧(e=2∨e=0∧ok∧X.length≤3000∧∃ U,runE xs w0 w1 m (cutF w0 w1 bs) (0,longA xs 0) w0=U∧X=U.map (·.1))
theorem RunAns.two {t:LT} (ht:RT 4 t) {bs:List Wn} {w0 w1 m:Int} {r:AV} (hb:brkE bs=0) (hw:winE w0 w1=0) (hm:m=1∨m=4) (h:RunAns 23 t bs w0 w1 m r):RunTwo (rdS 23 t) bs w0 w1 m (rdE 23 t=0) r:=by
 have hp:=plyE_rd ht hb hw hm
 rcases rt_rdE ht with e|e
 ·rw [e] at hp
  exact ⟨[],2,by rw [h.1 (by rw [hp];decide),hp];rfl,.inl rfl⟩
 ·rw [e] at hp
  obtain ⟨U,hU⟩:∃ U,runE (rdS 23 t) w0 w1 m (cutF w0 w1 bs) (0,longA (rdS 23 t) 0) w0=U:=⟨_,rfl⟩
  have hr:=h.2 hp U hU
  by_cases hl:U.length≤3000
  ·rw [if_pos hl] at hr
   exact ⟨_,0,hr,.inr ⟨rfl,e,by rw [List.length_map];exact hl,U,hU,rfl⟩⟩
  ·rw [if_neg hl] at hr
   exact ⟨[],2,hr,.inl rfl⟩
def LostTwo (xs:List (ByteArray × Int)) (bs:List Wn) (w0 w1 m:Int) (r:AV):Prop :=
 ∃ (Y:List (ByteArray × Int × Int)) (e:Int),r=.tup [.row 5 (Y.map encLo) none,.v (.int .i64 e)]∧(e=2∨e=0∧Y.length≤5000∧∃ U O,runE xs w0 w1 m (cutF w0 w1 bs) (0,longA xs 0) w0=U∧runE xs w0 w1 m [] (0,longA xs 0) w0=O∧U.length≤3000∧O.length≤3000∧Y=(onceS (xs.map (·.1))).filterMap (lostK (ownP U) (allP O)))
theorem LostR.two {t:LT} (ht:RT 4 t) {bs:List Wn} {w0 w1 m:Int} {r:AV} (hb:brkE bs=0) (hw:winE w0 w1=0) (hm:m=1∨m=4) (h:LostR 23 t bs w0 w1 m r):LostTwo (rdS 23 t) bs w0 w1 m r:=by
 have hp:=plyE_rd ht hb hw hm
 rcases rt_rdE ht with e|e
 ·rw [e] at hp
  exact ⟨[],2,by rw [h.1 (by rw [hp];decide),hp];rfl,.inl rfl⟩
 ·rw [e] at hp
  have hg:=rd_good (d:=23) (t:=t) (ht.mono (e:=23) (by omega)).lc.kc e
  obtain ⟨U,hU⟩:∃ U,runE (rdS 23 t) w0 w1 m (cutF w0 w1 bs) (0,longA (rdS 23 t) 0) w0=U:=⟨_,rfl⟩
  obtain ⟨O,hO⟩:∃ O,runE (rdS 23 t) w0 w1 m [] (0,longA (rdS 23 t) 0) w0=O:=⟨_,rfl⟩
  have hr:=h.2 hp U O hU hO
  by_cases hl:U.length≤3000∧O.length≤3000
  ·rw [if_pos hl] at hr
   refine ⟨_,0,hr,.inr ⟨rfl,?_,U,O,hU,hO,hl.1,hl.2,rfl⟩⟩
   have h3:=List.length_filterMap_le (lostK (ownP U) (allP O)) (onceS ((rdS 23 t).map (·.1)))
   have h4:=onceS_len ((rdS 23 t).map (·.1))
   rw [List.length_map] at h4
   have:=hg.len
   omega
  ·rw [if_neg hl] at hr
   exact ⟨[],2,hr,.inl rfl⟩
theorem fills_at:∀ {U:List (Pl × Bool)} {a b:Int},Fills U a b→∀ k,k < U.length→((U.map Prod.fst).getD k default).2.1=a+durL ((U.map Prod.fst).take k)∧1≤((U.map Prod.fst).getD k default).2.2∧0≤durL ((U.map Prod.fst).take k)∧a+durL ((U.map Prod.fst).take k)+((U.map Prod.fst).getD k default).2.2≤b
 | [],_,_,_,k,hk=>absurd hk (by simp)
 | x :: l,a,b,h,0,_=>by
  have:=h.2.2.le
  obtain ⟨h1,h2,_⟩:=h
  refine ⟨?_,?_,?_,?_⟩
  ·simp [durL,h1]
  ·simpa using h2
  ·simp [durL]
  ·simp [durL];omega
 | x :: l,a,b,h,k+1,hk=>by
  obtain ⟨h1,h2,h3⟩:=h
  obtain ⟨i1,i2,i3,i4⟩:=fills_at h3 k (by simpa using hk)
  have e:durL (((x :: l).map Prod.fst).take (k+1))=x.1.2.2+durL ((l.map Prod.fst).take k):=by simp [durL]
  have e2:((x :: l).map Prod.fst).getD (k+1) default=(l.map Prod.fst).getD k default:=by simp
  rw [e,e2]
  refine ⟨by rw [i1];omega,i2,by omega,by omega⟩
theorem durL_succ (L:List Pl) (k:Nat) (h:k < L.length):durL (L.take (k+1))=durL (L.take k)+(L.getD k default).2.2:=by
 rw [List.take_succ_eq_append_getElem h]
 simp only [durL,List.map_append,List.sum_append,List.map_cons,List.map_nil,List.sum_cons,List.sum_nil,List.getD_eq_getElem?_getD,List.getElem?_eq_getElem h,Option.getD_some,Int.add_zero]
def takV (w0 w1:Int) (y:Wn):Int:=max 0 (min y.2.2 w1 - max y.2.1 w0)
theorem takeB_succ (w0 w1:Int) (bs:List Wn) (k:Nat) (h:k < bs.length):takeB w0 w1 (bs.take (k+1))=takeB w0 w1 (bs.take k)+takV w0 w1 (bs.getD k default):=by
 rw [List.take_succ_eq_append_getElem h]
 simp only [takeB,takV,List.map_append,List.sum_append,List.map_cons,List.map_nil,List.sum_cons,List.sum_nil,List.getD_eq_getElem?_getD,List.getElem?_eq_getElem h,Option.getD_some,Int.add_zero]
theorem takeB_bd {w0 w1:Int} (h0:0≤w0) (h1:w1≤345686400000):∀ bs:List Wn,0≤takeB w0 w1 bs∧takeB w0 w1 bs≤345686400000 * bs.length
 | []=>by simp [takeB]
 | y :: bs=>by
  have ih:=takeB_bd h0 h1 bs
  have e:takeB w0 w1 (y :: bs)=max 0 (min y.2.2 w1 - max y.2.1 w0)+takeB w0 w1 bs:=by simp [takeB]
  rw [e,List.length_cons]
  omega
def losL (Y:List (ByteArray × Int × Int)):Int:=(Y.map fun x=>x.2.2).sum
theorem losL_succ (Y:List (ByteArray × Int × Int)) (k:Nat) (h:k < Y.length):losL (Y.take (k+1))=losL (Y.take k)+(Y.getD k default).2.2:=by
 rw [List.take_succ_eq_append_getElem h]
 simp only [losL,List.map_append,List.sum_append,List.map_cons,List.map_nil,List.sum_cons,List.sum_nil,List.getD_eq_getElem?_getD,List.getElem?_eq_getElem h,Option.getD_some,Int.add_zero]
theorem losL_bd:∀ (Y:List (ByteArray × Int × Int)),(∀ x∈Y,-20000000000≤x.2.2∧x.2.2≤20000000000)→-20000000000 * (Y.length:Int)≤losL Y∧losL Y≤20000000000 * Y.length
 | [],_=>by simp [losL]
 | y :: Y,h=>by
  have ih:=losL_bd Y fun x hx=>h x (by simp [hx])
  have h1:=h y (by simp)
  have e:losL (y :: Y)=y.2.2+losL Y:=by simp [losL]
  rw [e,List.length_cons]
  omega
structure NilF (xs:List (ByteArray × Int)) (bs:List Wn) (w0 w1:Int) (X Y4:List Pl) (L:List (ByteArray × Int × Int)):Prop where
 x:∀ k,k < X.length→(X.getD k default).2.1=w0+durL (X.take k)∧1≤(X.getD k default).2.2∧0≤durL (X.take k)∧w0+durL (X.take k)+(X.getD k default).2.2≤w1
 y:∀ k,k < Y4.length→(Y4.getD k default).2.1=w0+durL (Y4.take k)∧1≤(Y4.getD k default).2.2∧0≤durL (Y4.take k)∧w0+durL (Y4.take k)+(Y4.getD k default).2.2≤w1
 xe:w0+durL X=w1
 ye:w0+durL Y4=w1
 lost:losL L=takeB w0 w1 bs
 lbd:∀ x∈L,-20000000000≤x.2.2∧x.2.2≤20000000000
 seen:∀ x∈Y4,bs.any (fun z=>decide (z.2.1≤x.2.1) && decide (x.2.1 < z.2.2))=true∨(timeE w0 x.2.1=0∧x.1=(xs.getD (posF xs ((x.2.1 - w0).tmod (sumL xs))) default).1)
theorem nil_facts {t:LT} (hb:KC 23 t) {bs:List Wn} {w0 w1:Int} (hok:plyE 23 t bs w0 w1 1=0) {X Y4:List Pl} {L:List (ByteArray × Int × Int)}
  (hX:∃ U,runE (rdS 23 t) w0 w1 1 (cutF w0 w1 bs) (0,longA (rdS 23 t) 0) w0=U∧X=U.map (·.1))
  (hY:∃ U,runE (rdS 23 t) w0 w1 4 (cutF w0 w1 bs) (0,longA (rdS 23 t) 0) w0=U∧Y4=U.map (·.1))
  (hL:∃ U O,runE (rdS 23 t) w0 w1 1 (cutF w0 w1 bs) (0,longA (rdS 23 t) 0) w0=U∧runE (rdS 23 t) w0 w1 1 [] (0,longA (rdS 23 t) 0) w0=O∧U.length≤3000∧O.length≤3000∧L=(onceS ((rdS 23 t).map (·.1))).filterMap (lostK (ownP U) (allP O))):NilF (rdS 23 t) bs w0 w1 X Y4 L:=by
 obtain ⟨hg,⟨hbk,_⟩,hw,_⟩:=plyE_ok hb hok
 obtain ⟨U,hU,rfl⟩:=hX
 obtain ⟨V,hV,rfl⟩:=hY
 obtain ⟨U',O,hU',hO,hl1,hl2,rfl⟩:=hL
 rw [hU] at hU'
 subst hU'
 have fU:=run_facts hg hw.2.1 hw.1 hbk hU
 have fV:=run_facts hg hw.2.1 hw.1 hbk hV
 have fO:=run_facts hg hw.2.1 hw.1 (bs:=[]) trivial (show runE (rdS 23 t) w0 w1 1 (cutF w0 w1 []) (0,longA (rdS 23 t) 0) w0=O from hO)
 obtain ⟨hA1,_,_⟩:=run_all hO
 refine ⟨fun k hk=>fills_at fU.fill k (by simpa using hk),fun k hk=>fills_at fV.fill k (by simpa using hk),?_,?_,lost_law hg hw.2.1 hw.1 hbk hU hO,?_,?_⟩
 ·have:=fills_dur fU.fill;omega
 ·have:=fills_dur fV.fill;omega
 ·intro x hx
  obtain ⟨k,_,hk⟩:=List.mem_filterMap.1 hx
  unfold lostK at hk
  split at hk
  ·cases hk
   have b1:=longF_bd fU.own k
   have b2:=longF_bd (show Pos (allP O) by rw [← hA1];exact fO.own) k
   have l1:(ownP U).length≤3000:=by have:=ownF_len U;simp only [ownP,ofPl,List.length_map];omega
   have l2:(allP O).length≤3000:=by simp only [allP,ofPl,List.length_map];omega
   show -20000000000≤longF (allP O) k - longF (ownP U) k∧longF (allP O) k - longF (ownP U) k≤20000000000
   omega
  ·cases hk
 ·intro x hx
  obtain ⟨y,hy,rfl⟩:=List.mem_map.1 hx
  obtain ⟨j,hj,hje⟩:=List.getElem_of_mem hx
  have hat:=fills_at fV.fill j (by simpa using hj)
  rw [show (V.map (·.1)).getD j default=y.1 by rw [List.getD_eq_getElem?_getD,List.getElem?_eq_getElem hj,← hje];rfl] at hat
  rcases unseen_law hg hw.2.1 hbk hV y hy with ⟨z,hz,z1,z2⟩|h2
  ·exact .inl (List.any_eq_true.2 ⟨z,hz,by simp [z1,z2]⟩)
  ·refine .inr ⟨?_,h2 (by omega)⟩
   unfold timeE momB
   rw [if_neg (by simp;omega),if_neg (by simp;omega)]
abbrev zP22E:List Nat:=[0,1,2,3,4,5,6,7,8,10,11,12,13,14,15,16,18,19,20,21,22,23,24]
abbrev zP22P:List (Nat × List Nat × List Nat):=[(9,[15,23],[]),(17,[23],[]),(25,[],[26,27]),(28,[],[29,30,31]),(32,[],[33,34,35]),(36,[],[])]
abbrev zP23E:List Nat:=[0,1,2,3]
abbrev zP23P:List (Nat × List Nat × List Nat):=[(4,[1],[5,6]),(7,[],[])]
attribute [go_sem] zP22E zP22P zP23E zP23P
theorem g_breaks (i:Nat) (l:List Int) (a:Int) (h:Hp) (hl:SOk l) (ha:0≤a∧a≤100000000) :
  ACalls Tryz.prog 29 [.ptr i 0] (h.st i l a) (fun r h'=>∃ (ws:List Wn) (a':Int),ws.length≤4∧(∀ x∈ws,WOk x)∧(a≤a'∧a'≤a+100)∧r=.row 3 (ws.map encW) none∧h'=h.st i l a'):=by
 refine gE Tryz.func29 rfl (by kernel_rfl) 83 rfl fun c=>?_
 (repeat (first|refine gQ rfl ?_|((refine gR fun K1 hK1=>?_;simp only [go_sem,↓reduceIte,reduceCtorEq,nA,nB,nC,nD,nE,nF]<;>and_intros<;>first|(apply hK1;clear hK1 K1)|(intros;(decide))|skip))))
 refine (g_pick i l a [0,0,500,1000,3000] none h hl (by omega) (by simp)).mono ?_;rintro _ _ ⟨at0,hat0,rfl,rfl⟩;apply hK1;clear hK1 K1
 simp only [List.mem_cons,List.not_mem_nil,or_false] at hat0
 (repeat (first|refine gQ rfl ?_|((refine gR fun K1 hK1=>?_;simp only [go_sem,↓reduceIte,reduceCtorEq,nA,nB,nC,nD,nE,nF]<;>and_intros<;>(apply hK1;clear hK1 K1)))))
 refine awp_seq ?_
 refine awp_ownA 3 3 rfl ⟨rfl,rfl⟩ (fun k hk=>?_)
 replace hk:h.T k=none:=hk
 (repeat (((refine gR fun K1 hK1=>?_;simp only [go_sem,↓reduceIte,reduceCtorEq,nA,nB,nC,nD,nE,nF]<;>and_intros<;>first|(intros;(decide))|skip))))
 refine (g_pick i l (a+1) [0,1,2,3,4] none ⟨h.H,upd h.T k (some (.cont 3 []))⟩ hl (by omega) (by simp)).mono ?_;rintro _ _ ⟨n,hn,rfl,rfl⟩;apply hK1;clear hK1 K1
 simp only [List.mem_cons,List.not_mem_nil,or_false] at hn
 obtain ⟨N,rfl⟩:∃ m:Nat,n=m:=⟨n.toNat,by omega⟩
 have hN:N≤4:=by omega
 clear hn
 (repeat (first|refine gO rfl ?_|((refine gR fun K1 hK1=>?_;simp only [go_sem,↓reduceIte,reduceCtorEq,nA,nB,nC,nD,nE,nF]<;>and_intros<;>(apply hK1;clear hK1 K1)))))
 refine awp_loopC (rl false [0,1,2,2,7,2,70]) 0 (fun g s=>∃ (j:Nat) (ws:List Wn) (a' at1:Int),g+j=N∧ws.length=j∧(∀ x∈ws,WOk x)∧(a≤a'∧a'≤a+2+3 * j)∧(0≤at1∧at1≤3000+20000 * j) ∧
  s=⟨((.ptr i 0) :: AV.junk :: AV.junk :: ((.arr 3 k j) :: (.v (.int .i64 at1)) :: (jnk 7 ((.v (.int .i64 N)) :: (.v (.int .i64 j)) :: (jnk 70 []))))),[],(Hp.mk h.H (upd h.T k (some (.cont 3 (ws.map encW))))).st i l a'⟩) N ⟨0,[],a+2,at0,by omega,rfl,by simp,by omega,by omega,by rw [show a+1+1=a+2 by omega];rfl⟩ ?_
 rintro g _ ⟨j,ws,a1,at1,hj,hwl,hwo,ha1,hat1,rfl⟩
 have hTq:∀ a2,((Hp.mk h.H (upd h.T k (some (.cont 3 (ws.map encW))))).st i l a2).T k=some (TO.cont 3 (ws.map encW)):=fun a2=>upd_same _ _ _
 have hlw:(ws.map encW).length=j:=by simpa using hwl
 have htt:∀ a2 X,(Hp.mk ((Hp.mk h.H (upd h.T k (some (.cont 3 (ws.map encW))))).st i l a2).H (upd ((Hp.mk h.H (upd h.T k (some (.cont 3 (ws.map encW))))).st i l a2).T k X))=(Hp.mk h.H (upd h.T k X)).st i l a2:=fun a2 X=>by simp only [Hp.st,upd_upd]
 (repeat (first|refine gO rfl ?_|((refine gR fun K1 hK1=>?_;simp only [go_sem,↓reduceIte,reduceCtorEq,nA,nB,nC,nD,nE,nF]<;>and_intros<;>(apply hK1;clear hK1 K1)))))
 refine awp_cond (t:=_) rfl (fun h1=>?_) (fun h1=>?_)
 ·simp only [decide_eq_true_eq] at h1
  have hjl:j < N:=by omega
  (repeat (first|refine gO rfl ?_|((refine gR fun K1 hK1=>?_;simp only [go_sem,↓reduceIte,reduceCtorEq,nA,nB,nC,nD,nE,nF,hTq,hlw]<;>and_intros<;>first|(intros;(decide))|skip))))
  refine (g_pick i l a1 [1,500,1000,2500,7000] none _ hl (by omega) (by simp)).mono ?_;rintro _ _ ⟨x,hx,rfl,rfl⟩;apply hK1;clear hK1 K1
  simp only [List.mem_cons,List.not_mem_nil,or_false] at hx
  (repeat (first|refine gO rfl ?_|((refine gR fun K1 hK1=>?_;simp only [go_sem,↓reduceIte,reduceCtorEq,nA,nB,nC,nD,nE,nF,hTq,hlw]<;>and_intros<;>first|(apply hK1;clear hK1 K1)|(intros;first|omega|decide)|skip))))
  refine (g_some i l (a1+1) [⟨#[120,97]⟩,⟨#[120,98]⟩,⟨#[105,97]⟩] none _ hl (by omega) (by simp)).mono ?_;rintro _ _ ⟨q,hq,rfl,rfl⟩;apply hK1;clear hK1 K1
  have hqs:q.size≤2:=by
   simp only [List.mem_cons,List.not_mem_nil,or_false] at hq
   rcases hq with rfl|rfl|rfl<;>decide
  (repeat (first|refine gO rfl ?_|((refine gR fun K1 hK1=>?_;simp only [go_sem,↓reduceIte,reduceCtorEq,nA,nB,nC,nD,nE,nF,hTq,hlw,htt]<;>and_intros<;>first|(apply hK1;clear hK1 K1)|(intros;first|omega|decide)|skip))))
  refine (g_pick i l (a1+1+1) [0,0,500,1000,1500,4000] none _ hl (by omega) (by simp)).mono ?_;rintro _ _ ⟨y,hy,rfl,rfl⟩;apply hK1;clear hK1 K1
  simp only [List.mem_cons,List.not_mem_nil,or_false] at hy
  (repeat (first|refine gO rfl ?_|((refine gR fun K1 hK1=>?_;simp only [go_sem,↓reduceIte,reduceCtorEq,nA,nB,nC,nD,nE,nF,hTq,hlw,htt]<;>and_intros<;>first|(apply hK1;clear hK1 K1)|(intros;(omega))))))
  refine ⟨g - 1,by omega,j+1,ws++[(q,at1,at1+x)],a1+1+1+1,at1+x+y,by omega,by simp [hwl],fun z hz=>?_,by omega,by omega,?_⟩
  ·rcases List.mem_append.1 hz with h9|h9
   ·exact hwo z h9
   ·rw [List.mem_singleton.1 h9]
    exact ⟨hqs,⟨by show _≤at1;omega,by show at1≤_;omega⟩,⟨by show _≤at1+x;omega,by show at1+x≤_;omega⟩⟩
  ·rw [List.map_append];rfl
 ·simp only [decide_eq_false_iff_not] at h1
  obtain rfl:j=N:=by omega
  clear hj h1
  (repeat ((refine gQ rfl ?_)))
  refine awp_seqJ (rl false [3,1,80]) 0 (fun s=>∃ (ws2:List Wn) (a2:Int),ws2.length=j∧(∀ x∈ws2,WOk x)∧(a≤a2∧a2≤a+50) ∧
   s=⟨((jnk 3 ((.arr 3 k j) :: (jnk 80 [])))),[],(Hp.mk h.H (upd h.T k (some (.cont 3 (ws2.map encW))))).st i l a2⟩) ?_ ?_
  ·by_cases hn0:j=0
   ·have hd0:decide ((0:Int) < (j:Int))=false:=by simp only [decide_eq_false_iff_not];omega
    (repeat (first|refine gO rfl ?_|((refine gR fun K1 hK1=>?_;simp only [go_sem,↓reduceIte,reduceCtorEq,nA,nB,nC,nD,nE,nF,hd0]<;>and_intros<;>(apply hK1;clear hK1 K1)))))
    refine awp_cond (t:=_) rfl (fun h9=>by cases h9) (fun _=>?_)
    (repeat ((refine gO rfl ?_)))
    exact ⟨ws,a1,hwl,hwo,by omega,rfl⟩
   ·have hd0:decide ((0:Int) < (j:Int))=true:=by simp only [decide_eq_true_eq];omega
    (repeat (((refine gR fun K1 hK1=>?_;simp only [go_sem,↓reduceIte,reduceCtorEq,nA,nB,nC,nD,nE,nF,hd0]<;>and_intros<;>first|(intros;(simp_all<;>omega))|skip))))
    refine (g_flip i l a1 15 _ hl (by omega) (by omega)).mono ?_
    rintro _ _ ⟨bb,rfl,rfl⟩
    refine ⟨rfl,hK1 _ ?_⟩;clear hK1 K1
    (repeat (first|refine gO rfl ?_|((refine gR fun K1 hK1=>?_;simp only [go_sem,↓reduceIte,reduceCtorEq,nA,nB,nC,nD,nE,nF,hd0]<;>and_intros<;>(apply hK1;clear hK1 K1)))))
    cases bb with
    | false =>
     refine awp_cond (t:=_) rfl (fun h9=>by cases h9) (fun _=>?_)
     (repeat ((refine gO rfl ?_)))
     exact ⟨ws,a1+1,hwl,hwo,by omega,rfl⟩
    | true =>
     refine awp_cond (t:=_) rfl (fun _=>?_) (fun h9=>by cases h9)
     (repeat (((refine gR fun K1 hK1=>?_;simp only [go_sem,↓reduceIte,reduceCtorEq,nA,nB,nC,nD,nE,nF]<;>and_intros))))
     refine (g_next i l (a1+1) j _ hl (by omega) (by omega)).mono ?_;rintro _ _ ⟨x,hx,rfl,rfl⟩;apply hK1;clear hK1 K1
     obtain ⟨q,rfl⟩:∃ q:Nat,x=q:=⟨x.toNat,by omega⟩
     have hqn:q < ws.length:=by omega
     have hqm:q < (ws.map encW).length:=by simpa using hqn
     have gq:(ws.map encW).getD q []=[.v (.string (ws.getD q default).1),.v (.int .i64 (ws.getD q default).2.1),.v (.int .i64 (ws.getD q default).2.2)]:=getD_enc encW ws q default hqn
     have hwq:=hwo _ (show ws.getD q default∈ws by rw [List.getD_eq_getElem?_getD,List.getElem?_eq_getElem hqn];exact List.getElem_mem hqn)
     have hgs:∀ A,((ws.map encW).set q A).getD q []=A:=fun A=>by rw [List.getD_eq_getElem?_getD,List.getElem?_set_self hqm];rfl
     have hss:∀ A B,((ws.map encW).set q A).set q B=(ws.map encW).set q B:=fun A B=>List.set_set _
     have hsl:∀ A,((ws.map encW).set q A).length=j:=fun A=>by rw [List.length_set,List.length_map,hwl]
     have hqq:q < j:=by omega
     generalize ws.getD q default=z at gq hwq
     have hTs:∀ A a2,((Hp.mk h.H (upd h.T k (some (.cont 3 ((ws.map encW).set q A))))).st i l a2).T k=some (TO.cont 3 ((ws.map encW).set q A)):=fun A a2=>upd_same _ _ _
     have htt2:∀ A a2 X,(Hp.mk ((Hp.mk h.H (upd h.T k (some (.cont 3 ((ws.map encW).set q A))))).st i l a2).H (upd ((Hp.mk h.H (upd h.T k (some (.cont 3 ((ws.map encW).set q A))))).st i l a2).T k X))=(Hp.mk h.H (upd h.T k X)).st i l a2:=fun A a2 X=>by simp only [Hp.st,upd_upd]
     (repeat (first|refine gO rfl ?_|((first|refine gR ?_|((with_reducible refine xR ?_);refine uE 11 zM40 zP22E zP22P 84 rfl (by kernel_rfl) ?_))<;>((try with_reducible intro K1 hK1);simp only [go_sem,↓reduceIte,reduceCtorEq,nA,nB,nC,nD,nE,nF,Int.toNat_natCast,hTq,hlw,gq,hqq]<;>and_intros<;>first|(apply hK1;clear hK1 K1)|(intros;first|omega|decide)|skip))))
     refine (g_some i l (a1+1+1) [z.1,⟨#[]⟩] none _ hl (by omega) (by simp)).mono ?_;rintro _ _ ⟨y1,hy1,rfl,rfl⟩;apply hK1;clear hK1 K1
     (repeat (((first|refine gR ?_|(with_reducible refine wM ?_ ?_))<;>((try with_reducible intro K1 hK1);simp only [go_sem,↓reduceIte,reduceCtorEq,nA,nB,nC,nD,nE,nF,Int.toNat_natCast,hTq,hlw,gq,hqq]<;>and_intros<;>first|(apply hK1;clear hK1 K1)|(intros;first|decide|(simp_all<;>omega))|skip))))
     refine (g_pick i l (a1+1+1+1) [z.2.1,-1,0] none _ hl (by omega) (by simp)).mono ?_;rintro _ _ ⟨y2,hy2,rfl,rfl⟩;apply hK1;clear hK1 K1
     (repeat (((first|refine gR ?_|(with_reducible refine wM ?_ ?_))<;>((try with_reducible intro K1 hK1);simp only [go_sem,↓reduceIte,reduceCtorEq,nA,nB,nC,nD,nE,nF,Int.toNat_natCast,hTq,hlw,gq,hqq]<;>and_intros<;>first|(apply hK1;clear hK1 K1)|(intros;first|decide|(simp_all<;>omega))|skip))))
     refine (g_pick i l (a1+1+1+1+1) [z.2.2,1,345686400001] none _ hl (by omega) (by simp)).mono ?_;rintro _ _ ⟨y3,hy3,rfl,rfl⟩;apply hK1;clear hK1 K1
     (repeat (first|refine gO rfl ?_|((first|refine gR ?_|(with_reducible refine wM ?_ ?_))<;>((try with_reducible intro K1 hK1);simp only [go_sem,↓reduceIte,reduceCtorEq,nA,nB,nC,nD,nE,nF,Int.toNat_natCast,hTq,hlw,gq,hqq,hgs,hss,hsl,hTs,htt,htt2]<;>and_intros<;>(apply hK1;clear hK1 K1)))))
     refine ⟨ws.set q (y1,y2,y3),a1+1+1+1+1+1,by rw [List.length_set,hwl],fun u hu=>?_,by omega,?_⟩
     ·rcases List.mem_or_eq_of_mem_set hu with h9|rfl
      ·exact hwo u h9
      ·obtain ⟨w1,w2,w3⟩:=hwq
       simp only [List.mem_cons,List.not_mem_nil,or_false] at hy1 hy2 hy3
       refine ⟨?_,by show _≤y2∧y2≤_;omega,by show _≤y3∧y3≤_;omega⟩
       rcases hy1 with rfl|rfl
       ·exact w1
       ·show (⟨#[]⟩:ByteArray).size≤2;decide
     ·rw [show (ws.set q (y1,y2,y3)).map encW=(ws.map encW).set q (encW (y1,y2,y3)) from List.map_set];rfl
  ·rintro _ ⟨ws2,a2,hwl2,hwo2,ha2,rfl⟩
   refine awp_frz 3 k 3 (xs:=ws2.map encW) (by simp [hwl2];rfl) (upd_same _ _ _) (encW_z ws2) ?_
   (repeat (first|refine gO rfl ?_|((refine gR fun K1 hK1=>?_;simp only [go_sem,↓reduceIte,reduceCtorEq,nA,nB,nC,nD,nE,nF]<;>and_intros<;>(apply hK1;clear hK1 K1)))))
   simp only [Tryz.results29,go_sem,↓reduceIte,reduceCtorEq,nA,nB,nC,nD,nE,nF]
   refine ⟨_,h.st i l a2,Weak.refl _,⟨fun _=>.inr rfl,fun j=>?_⟩,ws2,a2,by omega,hwo2,by omega,rfl,rfl⟩
   by_cases e:j=k
   ·subst e;exact .inl hk
   ·exact .inr (by simp only [Hp.st];rw [upd_other _ _ e,upd_other _ _ e])
theorem g_span (i:Nat) (l:List Int) (a:Int) (h:Hp) (hl:SOk l) (ha:0≤a∧a≤100000000) :
  ACalls Tryz.prog 30 [.ptr i 0] (h.st i l a) (fun r h'=>∃ x y a':Int,(-1≤x∧x≤1000)∧(0≤y∧y≤345686400001)∧(a≤a'∧a'≤a+100)∧r=.agg [.v (.int .i64 x),.v (.int .i64 y)]∧h'=h.st i l a'):=by
 refine gE Tryz.func30 rfl (by kernel_rfl) 24 rfl fun c=>?_
 (repeat (first|refine gO rfl ?_|((refine gM zM46 fun K1 hK1=>?_;simp only [go_sem,↓reduceIte,reduceCtorEq,nA,nB,nC,nD,nE,nF]<;>and_intros<;>first|(apply hK1;clear hK1 K1)|(intros;(decide))|skip))))
 refine (g_pick i l a [0,0,500,1000] none h hl (by omega) (by simp)).mono ?_;rintro _ _ ⟨x,hx,rfl,rfl⟩;apply hK1;clear hK1 K1
 simp only [List.mem_cons,List.not_mem_nil,or_false] at hx
 (repeat (first|refine gO rfl ?_|((first|refine gM zM46 ?_|((with_reducible refine xS ?_);refine uD 2 zM46 zP23E zP23P 25 rfl (by kernel_rfl) ?_))<;>((try with_reducible intro K1 hK1);simp only [go_sem,↓reduceIte,reduceCtorEq,nA,nB,nC,nD,nE,nF]<;>and_intros<;>first|(apply hK1;clear hK1 K1)|(intros;(decide))|skip))))
 refine (g_pick i l (a+1) [0,1,1000,7500,20000,40000] none _ hl (by omega) (by simp)).mono ?_;rintro _ _ ⟨y,hy,rfl,rfl⟩;apply hK1;clear hK1 K1
 simp only [List.mem_cons,List.not_mem_nil,or_false] at hy
 (repeat (first|refine gO rfl ?_|((first|refine gM zM46 ?_|(with_reducible refine wM ?_ ?_))<;>((try with_reducible intro K1 hK1);simp only [go_sem,↓reduceIte,reduceCtorEq,nA,nB,nC,nD,nE,nF]<;>and_intros<;>first|(apply hK1;clear hK1 K1)|(intros;first|omega|(simp_all<;>omega))|skip))))
 refine (g_flip i l (a+1+1) 20 h hl (by omega) (by omega)).mono ?_;rintro _ _ ⟨bb,rfl,rfl⟩;apply hK1;clear hK1 K1
 (repeat ((refine gO rfl ?_)))
 cases bb with
 | false =>
  refine awp_cond (t:=_) rfl (fun h9=>by cases h9) (fun _=>?_)
  (repeat (first|refine gO rfl ?_|((refine gM zM46 fun K1 hK1=>?_;simp only [go_sem,↓reduceIte,reduceCtorEq,nA,nB,nC,nD,nE,nF]<;>and_intros<;>(apply hK1;clear hK1 K1)))))
  simp only [Tryz.results30,go_sem,↓reduceIte,reduceCtorEq,nA,nB,nC,nD,nE,nF]
  exact ⟨_,_,Weak.refl _,Hp.le.refl _,x,x+y,a+1+1+1,by omega,by omega,by omega,rfl,rfl⟩
 | true =>
  refine awp_cond (t:=_) rfl (fun _=>?_) (fun h9=>by cases h9)
  (repeat (((refine gM zM46 fun K1 hK1=>?_;simp only [go_sem,↓reduceIte,reduceCtorEq,nA,nB,nC,nD,nE,nF]<;>and_intros<;>first|(intros;(decide))|skip))))
  refine (g_pick i l (a+1+1+1) [-1,10] none h hl (by omega) (by simp)).mono ?_;rintro _ _ ⟨u,hu,rfl,rfl⟩;apply hK1;clear hK1 K1
  simp only [List.mem_cons,List.not_mem_nil,or_false] at hu
  (repeat (((refine gM zM46 fun K1 hK1=>?_;simp only [go_sem,↓reduceIte,reduceCtorEq,nA,nB,nC,nD,nE,nF]<;>and_intros<;>first|(intros;(decide))|skip))))
  refine (g_pick i l (a+1+1+1+1) [9,345686400001] none h hl (by omega) (by simp)).mono ?_;rintro _ _ ⟨v,hv,rfl,rfl⟩;apply hK1;clear hK1 K1
  simp only [List.mem_cons,List.not_mem_nil,or_false] at hv
  (repeat (first|refine gO rfl ?_|((refine gM zM46 fun K1 hK1=>?_;simp only [go_sem,↓reduceIte,reduceCtorEq,nA,nB,nC,nD,nE,nF]<;>and_intros<;>(apply hK1;clear hK1 K1)))))
  simp only [Tryz.results30,go_sem,↓reduceIte,reduceCtorEq,nA,nB,nC,nD,nE,nF]
  exact ⟨_,_,Weak.refl _,Hp.le.refl _,u,v,a+1+1+1+1+1,by omega,by omega,by omega,rfl,rfl⟩
theorem g_isMoment (n:Int) (h:Hp):ACalls Tryz.prog 102 [.v (.int .i64 n)] h (fun r h'=>r=.v (.bool (momB n))∧h'=h):=by
 unfold momB
 refine gE Tryz.func102 rfl (by kernel_rfl) 8 rfl fun c=>?_
 (repeat (first|refine gO rfl ?_|(refine gR fun K1 hK1=>?_;simp only [go_sem,↓reduceIte,reduceCtorEq,nA,nB,nC,nD,nE,nF]<;>and_intros<;>(apply hK1;clear hK1 K1))))
 simp only [Tryz.results102,go_sem,↓reduceIte,reduceCtorEq,nA,nB,nC,nD,nE,nF]
 refine ⟨_,_,Weak.refl _,Hp.le.refl _,?_,rfl⟩
 cases decide (0≤n)<;>rfl
theorem g_timesFault (a b:Int) (h:Hp):ACalls Tryz.prog 78 [.v (.int .i64 a),.v (.int .i64 b)] h (fun r h'=>r=.v (.int .i64 (timeE a b))∧h'=h):=by
 have h1:=fun h=>g_isMoment a h
 have h2:=fun h=>g_isMoment b h
 unfold timeE
 generalize momB a=p at *
 generalize momB b=q at *
 refine gE Tryz.func78 rfl (by kernel_rfl) 14 rfl fun c=>?_
 (repeat (first|refine gO rfl ?_|(refine gR fun K1 hK1=>?_;simp only [go_sem,↓reduceIte,reduceCtorEq,nA,nB,nC,nD,nE,nF]<;>and_intros<;>first|(apply hK1;clear hK1 K1)|skip)))
 refine (h1 _).mono ?_;rintro _ hz ⟨rfl,hh⟩;apply hK1;clear hK1 K1;rw [hh];clear hh hz
 cases p with
 | false =>
  (repeat ((refine gR fun K1 hK1=>?_;simp only [go_sem,↓reduceIte,reduceCtorEq,nA,nB,nC,nD,nE,nF]<;>and_intros<;>first|(apply hK1;clear hK1 K1)|skip)))
  refine ⟨.v (.bool true),rfl,hK1 _ ?_⟩;clear hK1 K1
  (repeat ((refine gO rfl ?_)))
  refine awp_cond (t:=_) rfl (fun _=>?_) (fun h9=>by cases h9)
  (repeat (first|refine gO rfl ?_|(refine gR fun K1 hK1=>?_;simp only [go_sem,↓reduceIte,reduceCtorEq,nA,nB,nC,nD,nE,nF]<;>and_intros<;>(apply hK1;clear hK1 K1))))
  simp only [Tryz.results78,go_sem,↓reduceIte,reduceCtorEq,nA,nB,nC,nD,nE,nF]
  exact ⟨_,_,Weak.refl _,Hp.le.refl _,rfl,rfl⟩
 | true =>
  (repeat ((refine gR fun K1 hK1=>?_;simp only [go_sem,↓reduceIte,reduceCtorEq,nA,nB,nC,nD,nE,nF]<;>and_intros<;>first|(intros;(simp_all<;>omega))|skip)))
  refine (h2 _).mono ?_;rintro _ hz ⟨rfl,hh⟩;refine ⟨rfl,hK1 _ ?_⟩;clear hK1 K1;rw [hh];clear hh hz
  (repeat (first|refine gO rfl ?_|(refine gR fun K1 hK1=>?_;simp only [go_sem,↓reduceIte,reduceCtorEq,nA,nB,nC,nD,nE,nF]<;>and_intros<;>(apply hK1;clear hK1 K1))))
  cases q with
  | false =>
   refine awp_cond (t:=_) rfl (fun _=>?_) (fun h9=>by cases h9)
   (repeat (first|refine gO rfl ?_|(refine gR fun K1 hK1=>?_;simp only [go_sem,↓reduceIte,reduceCtorEq,nA,nB,nC,nD,nE,nF]<;>and_intros<;>(apply hK1;clear hK1 K1))))
   simp only [Tryz.results78,go_sem,↓reduceIte,reduceCtorEq,nA,nB,nC,nD,nE,nF]
   exact ⟨_,_,Weak.refl _,Hp.le.refl _,rfl,rfl⟩
  | true =>
   refine awp_cond (t:=_) rfl (fun h9=>by cases h9) (fun _=>?_)
   (repeat (first|refine gO rfl ?_|(refine gR fun K1 hK1=>?_;simp only [go_sem,↓reduceIte,reduceCtorEq,nA,nB,nC,nD,nE,nF]<;>and_intros<;>(apply hK1;clear hK1 K1))))
   refine awp_cond (t:=_) rfl (fun h9=>?_) (fun h9=>?_)
   ·(repeat (first|refine gO rfl ?_|(refine gR fun K1 hK1=>?_;simp only [go_sem,↓reduceIte,reduceCtorEq,nA,nB,nC,nD,nE,nF]<;>and_intros<;>(apply hK1;clear hK1 K1))))
    simp only [Tryz.results78,go_sem,↓reduceIte,reduceCtorEq,nA,nB,nC,nD,nE,nF]
    exact ⟨_,_,Weak.refl _,Hp.le.refl _,by simp [h9],rfl⟩
   ·(repeat (first|refine gO rfl ?_|(refine gR fun K1 hK1=>?_;simp only [go_sem,↓reduceIte,reduceCtorEq,nA,nB,nC,nD,nE,nF]<;>and_intros<;>(apply hK1;clear hK1 K1))))
    simp only [Tryz.results78,go_sem,↓reduceIte,reduceCtorEq,nA,nB,nC,nD,nE,nF]
    exact ⟨_,_,Weak.refl _,Hp.le.refl _,by simp [h9],rfl⟩
theorem g_at (n:Int) (xs:List (ByteArray × Int)) (x:Int) (h:Hp) (hg:GoodS xs) (h0:0≤x) (h1:x≤1000000000000):ACalls Tryz.prog 80 [.agg [.v (.int .i64 n),.row 2 (xs.map encStep) none,.v (.int .i64 (sumL xs))],.v (.int .i64 x)] h
  (fun r h'=>r=.tup [.v (.int .i64 (posF xs (x.tmod (sumL xs)):Nat)),.v (.int .i64 (x.tmod (sumL xs) - preL xs (posF xs (x.tmod (sumL xs)))))]∧h'=h):=by
 have hs:=sumL_pos hg.pos hg.ne
 have hgl:=hg.len
 have hr:0≤x.tmod (sumL xs)∧x.tmod (sumL xs) < sumL xs:=⟨Int.tmod_nonneg _ h0,Int.tmod_lt_of_pos _ (by omega)⟩
 have hsb:=sumL_bd hg.pos
 have hal:=preL_all xs
 have hne:(sumL xs=0)=False:=by simp;omega
 refine gE Tryz.func80 rfl (by kernel_rfl) 30 rfl fun c=>?_
 (repeat (first|refine gO rfl ?_|(refine gM zM47 fun K1 hK1=>?_;simp only [go_sem,↓reduceIte,reduceCtorEq,nA,nB,nC,nD,nE,nF,hne]<;>and_intros<;>(apply hK1;clear hK1 K1))))
 generalize x.tmod (sumL xs)=rr at *
 refine awp_loopC (rl false [2,1,3,1,7,3,15]) 0 (fun g s=>∃ j:Nat,g+j=xs.length∧preL xs j≤rr ∧
  s=⟨(AV.junk :: AV.junk :: ((.ref [.v (.int .i64 n),.row 2 (xs.map encStep) none,.v (.int .i64 (sumL xs))] 0) :: (jnk 3 ((.v (.int .i64 (rr - preL xs j))) :: (jnk 7 ((.row 2 (xs.map encStep) none) :: (.v (.int .i64 xs.length)) :: (.v (.int .i64 j)) :: (jnk 15 []))))))),[],h⟩) xs.length ⟨0,by omega,by rw [preL_zero];omega,by rw [preL_zero,Int.sub_zero];rfl⟩ ?_
 rintro g _ ⟨j,hj,hle,rfl⟩
 (repeat (first|refine gO rfl ?_|(refine gM zM47 fun K1 hK1=>?_;simp only [go_sem,↓reduceIte,reduceCtorEq,nA,nB,nC,nD,nE,nF]<;>and_intros<;>(apply hK1;clear hK1 K1))))
 refine awp_cond (t:=_) rfl (fun h2=>?_) (fun h2=>?_)
 ·simp only [decide_eq_true_eq] at h2
  have hjl:j < xs.length:=by omega
  have gx:(xs.map encStep).getD j []=encStep (xs.getD j default):=getD_enc encStep xs j default hjl
  have hpa:=pos_at hg.pos hjl
  have hps:=preL_succ xs j hjl
  have hpb:=preL_bd hg.pos j (by omega)
  generalize xs.getD j default=y at gx hpa hps
  (repeat (first|refine gO rfl ?_|(refine gM zM47 fun K1 hK1=>?_;simp only [go_sem,↓reduceIte,reduceCtorEq,nA,nB,nC,nD,nE,nF,Int.toNat_natCast,gx,encStep]<;>and_intros<;>first|(apply hK1;clear hK1 K1)|(intros;(omega)))))
  refine awp_cond (t:=_) rfl (fun h3=>?_) (fun h3=>?_)
  ·simp only [decide_eq_true_eq] at h3
   (repeat (first|refine gO rfl ?_|(refine gM zM47 fun K1 hK1=>?_;simp only [go_sem,↓reduceIte,reduceCtorEq,nA,nB,nC,nD,nE,nF]<;>and_intros<;>(apply hK1;clear hK1 K1))))
   simp only [Tryz.results80,go_sem,↓reduceIte,reduceCtorEq,nA,nB,nC,nD,nE,nF]
   have hpf:=posF_of hg.pos hjl hle (show rr < preL xs (j+1) by omega)
   exact ⟨_,_,Weak.refl _,Hp.le.refl _,by rw [hpf],rfl⟩
  ·simp only [decide_eq_false_iff_not] at h3
   (repeat (first|refine gO rfl ?_|(refine gM zM47 fun K1 hK1=>?_;simp only [go_sem,↓reduceIte,reduceCtorEq,nA,nB,nC,nD,nE,nF]<;>and_intros<;>first|(apply hK1;clear hK1 K1)|(intros;(omega)))))
   refine ⟨g - 1,by omega,j+1,by omega,by omega,?_⟩
   rw [hps,← Int.sub_sub];rfl
 ·simp only [decide_eq_false_iff_not] at h2
  have hjl:j=xs.length:=by omega
  rw [hjl,hal] at hle
  omega
theorem g_OnAt (d:Nat) (t:LT) (a x:Int) (h:Hp) (hb:KC d t) (hd:manyF t≤1000000000000000∧d≤1000):ACalls Tryz.prog 19 [.agg (encL t),.v (.int .i64 a),.v (.int .i64 x)] h
  (fun r _=>∃ sc c,r=.tup [.agg (encStep sc),.v (.int .i64 c),.v (.int .i64 (orI [faultF t,timeE a x,rdE d t]))]∧(orI [faultF t,timeE a x,rdE d t]=0→sc=(rdS d t).getD (posF (rdS d t) ((x - a).tmod (sumL (rdS d t)))) default∧c=x - (x - a).tmod (sumL (rdS d t))+preL (rdS d t) (posF (rdS d t) ((x - a).tmod (sumL (rdS d t)))))):=by
 have hlen:=encL_len t
 have htk:List.take 6 (encL t)=encL t:=List.take_of_length_le (Nat.le_of_eq hlen)
 have hdk:List.drop 6 (encL t)=[]:=List.drop_of_length_le (Nat.le_of_eq hlen)
 have hck:=fun h=>g_check7 d t h hb hd
 have htf:=fun h=>g_timesFault a x h
 have hgood:=fun he=>rd_good (d:=d) (t:=t) hb he
 have hz:timeE a x=0→_:=timeE_zero
 have hdef:([AV.v (.string ⟨#[]⟩),.v (.int .i64 0)]:List AV)=encStep default:=rfl
 refine gE Tryz.func19 rfl (by kernel_rfl) 50 rfl fun c=>?_
 (repeat (first|refine gO rfl ?_|(refine gM zM48 fun K1 hK1=>?_;simp only [go_sem,↓reduceIte,reduceCtorEq,nA,nB,nC,nD,nE,nF,hlen,htk,hdk]<;>and_intros<;>first|(apply hK1;clear hK1 K1)|skip)))
 refine (hck _).mono ?_;rintro _ hz ⟨rfl,hh⟩;apply hK1;clear hK1 K1;rw [hh];clear hh hz
 (repeat (first|refine gO rfl ?_|(refine gM zM48 fun K1 hK1=>?_;simp only [go_sem,↓reduceIte,reduceCtorEq,nA,nB,nC,nD,nE,nF,hlen,htk,hdk]<;>and_intros<;>(apply hK1;clear hK1 K1))))
 by_cases hf:faultF t=0
 ·have hv:=vl_of d t hb (part_of_fault hf)
  have hrp:=fun h=>g_roundP d t h hb hv (il_of d t (part_of_fault hf))
  unfold roundC at hrp
  unfold rdE rdS at *
  rw [if_pos hf,if_pos hf] at *
  rw [hf]
  refine awp_cond (t:=_) rfl (fun h9=>by cases h9) (fun _=>?_)
  (repeat (first|refine gO rfl ?_|(refine gM zM48 fun K1 hK1=>?_;simp only [go_sem,↓reduceIte,reduceCtorEq,nA,nB,nC,nD,nE,nF,hlen,htk,hdk]<;>and_intros)))
  refine (htf _).mono ?_;rintro _ hz ⟨rfl,hh⟩;apply hK1;clear hK1 K1;rw [hh];clear hh hz
  (repeat (first|refine gO rfl ?_|(refine gM zM48 fun K1 hK1=>?_;simp only [go_sem,↓reduceIte,reduceCtorEq,nA,nB,nC,nD,nE,nF,hlen,htk,hdk]<;>and_intros<;>(apply hK1;clear hK1 K1))))
  by_cases ht:timeE a x=0
  ·obtain ⟨z1,z2,z3⟩:=hz ht
   rw [ht]
   refine awp_cond (t:=_) rfl (fun h9=>by cases h9) (fun _=>?_)
   (repeat (first|refine gO rfl ?_|(refine gM zM48 fun K1 hK1=>?_;simp only [go_sem,↓reduceIte,reduceCtorEq,nA,nB,nC,nD,nE,nF,hlen,htk,hdk]<;>and_intros)))
   refine (hrp _).mono ?_
   rintro _ h2 rfl
   refine hK1 _ ?_;clear hK1 K1
   have hsl:((roundS d t).map (·.2)).sum=sumL (roundS d t):=rfl
   rw [hsl]
   clear hrp hck htf
   generalize roundS d t=xs at *
   generalize roundN d t=n at *
   generalize roundE d t=e at *
   (repeat (first|refine gO rfl ?_|(refine gM zM48 fun K1 hK1=>?_;simp only [go_sem,↓reduceIte,reduceCtorEq,nA,nB,nC,nD,nE,nF]<;>and_intros<;>(apply hK1;clear hK1 K1))))
   by_cases he:e=0
   ·subst he
    have hg:=hgood rfl
    refine awp_cond (t:=_) rfl (fun h9=>by cases h9) (fun _=>?_)
    (repeat (first|refine gO rfl ?_|(refine gM zM48 fun K1 hK1=>?_;simp only [go_sem,↓reduceIte,reduceCtorEq,nA,nB,nC,nD,nE,nF]<;>and_intros<;>first|(intros;(omega))|skip)))
    have hat:=fun h=>g_at (n:Int) xs (x - a) h hg (by omega) (by omega)
    have hr:=rest_bd hg.pos hg.ne z2
    obtain ⟨p1,p2,p3⟩:=posF_ex hg.pos hr.1 hr.2
    have hgl:=hg.len
    have hsb:=sumL_bd hg.pos
    have hpb:=preL_nonneg hg.pos (posF xs ((x - a).tmod (sumL xs)))
    generalize (x - a).tmod (sumL xs)=rr at *
    generalize posF xs rr=i at *
    refine (hat _).mono ?_;rintro _ hz ⟨rfl,hh⟩;apply hK1;clear hK1 K1;rw [hh];clear hh hz
    have gx:(xs.map encStep).getD i []=encStep (xs.getD i default):=getD_enc encStep xs i default p1
    generalize xs.getD i default=y at *
    (repeat (first|refine gO rfl ?_|(refine gM zM48 fun K1 hK1=>?_;simp only [go_sem,↓reduceIte,reduceCtorEq,nA,nB,nC,nD,nE,nF,Int.toNat_natCast,gx,encStep]<;>and_intros<;>first|(apply hK1;clear hK1 K1)|(intros;(omega)))))
    simp only [Tryz.results19,go_sem,↓reduceIte,reduceCtorEq,nA,nB,nC,nD,nE,nF]
    refine ⟨_,_,Weak.refl _,Hp.le.refl _,y,_,rfl,fun _=>⟨rfl,by omega⟩⟩
   ·have hb9:(e != 0)=true:=by simpa using he
    refine awp_cond (t:=_) rfl (fun _=>?_) (fun h9=>by rw [hb9] at h9;cases h9)
    (repeat (first|refine gO rfl ?_|(refine gM zM48 fun K1 hK1=>?_;simp only [go_sem,↓reduceIte,reduceCtorEq,nA,nB,nC,nD,nE,nF]<;>and_intros<;>(apply hK1;clear hK1 K1))))
    simp only [Tryz.results19,go_sem,↓reduceIte,reduceCtorEq,nA,nB,nC,nD,nE,nF]
    refine ⟨_,_,Weak.refl _,Hp.le.refl _,default,0,?_,fun h9=>?_⟩
    ·simp [orI];rfl
    ·simp [orI] at h9;exact absurd (h9 he) he
  ·have hb9:(timeE a x != 0)=true:=by simpa using ht
   generalize timeE a x=e at *
   refine awp_cond (t:=_) rfl (fun _=>?_) (fun h9=>by rw [hb9] at h9;cases h9)
   (repeat (first|refine gO rfl ?_|(refine gM zM48 fun K1 hK1=>?_;simp only [go_sem,↓reduceIte,reduceCtorEq,nA,nB,nC,nD,nE,nF]<;>and_intros<;>(apply hK1;clear hK1 K1))))
   simp only [Tryz.results19,go_sem,↓reduceIte,reduceCtorEq,nA,nB,nC,nD,nE,nF]
   refine ⟨_,_,Weak.refl _,Hp.le.refl _,default,0,?_,fun h9=>?_⟩
   ·simp [orI,ht];rfl
   ·simp [orI,ht] at h9
 ·have hb9:(faultF t != 0)=true:=by simpa using hf
  refine awp_cond (t:=_) rfl (fun _=>?_) (fun h9=>by rw [hb9] at h9;cases h9)
  (repeat (first|refine gO rfl ?_|(refine gM zM48 fun K1 hK1=>?_;simp only [go_sem,↓reduceIte,reduceCtorEq,nA,nB,nC,nD,nE,nF]<;>and_intros<;>(apply hK1;clear hK1 K1))))
  simp only [Tryz.results19,go_sem,↓reduceIte,reduceCtorEq,nA,nB,nC,nD,nE,nF]
  refine ⟨_,_,Weak.refl _,Hp.le.refl _,default,0,?_,fun h9=>?_⟩
  ·simp [orI,hf];rfl
  ·simp [orI,hf] at h9
theorem encX_weakL:∀ (d:Nat) (t:LT),LC d t→∀ (G:Gh) (us:List Value),RepL G (encX t) us→RepL G (encL t) us
 | 0,_,h=>h.elim
 | d+1,.mk kind item long many kids shares,hb=>fun G us hu=>by
  obtain ⟨b1,b2,b3,b4,b5,b6,b7,b8⟩:=hb
  rw [encX_eq] at hu
  rw [encL_eq]
  refine hu.of6 (fun _ h=>h) (fun _ h=>h) (fun _ h=>h) (fun _ h=>h) (fun x h=>?_) (fun x h=>?_)
  ·have hz:∀ y∈kids.map encX,y.length=6:=fun y hy=>by obtain ⟨t,_,rfl⟩:=List.mem_map.1 hy;exact encX_len t
   have hz':∀ y∈kids.map encL,y.length=6:=fun y hy=>by obtain ⟨t,_,rfl⟩:=List.mem_map.1 hy;exact encL_len t
   have key:Rep G (.row 6 (kids.map encX) none) x:=by
    cases kids with
    | nil=>exact Weak.nil 6 0 0 ⟨rfl,rfl⟩ G x h
    | cons y ys=>exact h
   refine key.rowFlat (GLe.refl G) (by simp) hz' (RepL.flat (by simp) hz fun i a b us2 h2=>?_)
   simp only [List.length_map] at a
   simp only [List.getElem_map] at h2 ⊢
   exact encX_weakL d _ (b8 _ (List.getElem_mem _)) G us2 h2
  ·cases shares with
   | nil=>exact Weak.nil 1 0 0 ⟨rfl,rfl⟩ G x h
   | cons y ys=>exact h
theorem encX_weak (d:Nat) (t:LT) (hb:LC d t):Weak (.agg (encX t)) (.agg (encL t)):=fun G v hr=>by
 obtain ⟨vs,rfl,hvs⟩:=RepL.of_agg hr
 exact (encX_weakL d t hb G vs hvs).agg
open Go Go.RowKit
def ARow (w:World) (a:Option Addr) (len cap:Nat) (zs:List Int):Prop :=
 (a=none∧len=0∧cap=0∧zs=[])∨∃ b:Addr,a=some b∧len≤cap∧cap≤maxLen∧zs.length=cap∧(∀ i,i < zs.length→w.cell? (b.add i)=some (.int .i64 (zs.getD i 0))∧w.frozen? (b.add i)=false)∧(∀ n∈zs,(Lit.int .i64 n).wf=true)
def G0 (w:World):Gh:=⟨fun g o=>cellT w g o,fun _=>none,fun _=>none,0⟩
def H0:Hp:=⟨fun _=>none,fun _=>none⟩
theorem hsim_all (w:World):HSim (G0 w) H0 w where
 val _ _ _ h:=h
 obj _ _ h:=by cases h
 inj _ _ _ h:=absurd rfl h
 tok _ _ h:=by cases h
 tinj _ _ _ _ h:=absurd rfl h
 tobj _ _ _ h:=absurd rfl h
 fat _ _:=rfl
 ftl _ _:=rfl
theorem below_of_fr {G G':Gh} {h':Hp} {w w':World} (f:Fr G H0 w G' h' w'):Below w.heap.size w w' :=
 ⟨f.os,f.tape,f.output,f.size,fun b hb=>(f.keep b hb (fun o=>by rcases o with ⟨_,h,_⟩|⟨_,_,h,_⟩<;>exact h rfl)).1⟩
theorem rep_v_inv0 {G:Gh} {x y:Value} (h:Rep G (.v x) y):y=x:=by cases h;rfl
theorem flat_encI (l:List Int):(l.map encI).flatten=l.map fun x=>AV.v (.int .i64 x):=by
 induction l with
 | nil=>rfl
 | cons x q ih=>simp [encI,ih]
theorem arow_rep {w:World} {a:Option Addr} {len cap:Nat} {zs:List Int} (h:ARow w a len cap zs):∃ l:List Int,SOk l∧Rep (G0 w) (.row 1 (l.map encI) none) (.slice a len cap):=by
 rcases h with ⟨rfl,rfl,rfl,_⟩|⟨⟨b,o,sp⟩,rfl,hl,hm,hz,hc,hwz⟩
 ·exact ⟨[],⟨by simp,by simp⟩,.nil 1 none trivial⟩
 ·by_cases h0:cap=0
  ·subst h0
   obtain rfl:len=0:=by omega
   exact ⟨[],⟨by simp,by simp⟩,.nilA 1 _⟩
  ·have hsp:sp=none:=by
    have h1:=(hc 0 (by omega)).1
    rw [show (⟨b,o,sp⟩:Addr).add 0=⟨b,o,sp⟩ from rfl] at h1
    cases sp with
    | none=>rfl
    | some s =>
     simp only [World.cell?] at h1
     split at h1<;>simp at h1
   subst hsp
   refine ⟨zs.take len,⟨by have hm2:maxLen=9223372036854775807:=rfl;rw [List.length_take];omega,fun x hx=>?_⟩,?_⟩
   ·have h1:=hwz x (List.mem_of_mem_take hx)
    simp only [Lit.wf,Bool.and_eq_true,decide_eq_true_eq] at h1
    exact ⟨h1.1,h1.2⟩
   ·have hlen:(zs.take len).length=len:=by simp;omega
    have h2:=Rep.row_mk (G:=G0 w) (z:=1) (xs:=(zs.take len).map encI) (g:=b) (o:=o) (c:=cap) (us:=(zs.take len).map fun x=>Value.int .i64 x) (by rw [List.length_map,hlen];exact hl)
     (fun y hy=>by obtain ⟨x,_,rfl⟩:=List.mem_map.1 hy;rfl) (by
      rw [flat_encI]
      refine ⟨by simp,fun j a b=>?_⟩
      simp only [List.getElem_map]
      exact ⟨.v _ rfl,rfl⟩) (fun j y hy=>by
      rw [List.getElem?_map] at hy
      obtain ⟨x,hx,rfl⟩:=Option.map_eq_some_iff.1 hy
      rw [List.getElem?_take] at hx
      split at hx
      ·have hjl:=(List.getElem?_eq_some_iff.1 hx).1
       have h3:=hc j hjl
       rw [List.getD_eq_getElem?_getD,hx,Addr.add_lit] at h3
       show cellT w b (o+j)=_
       rw [cellT,h3.2];exact h3.1
      ·cases hx)
    rwa [List.length_map,hlen] at h2
theorem law_calls {f:Nat} (hlaw:∀ (l:List Int) (h:Hp),SOk l→ACalls Tryz.prog f [.row 1 (l.map encI) none] h (fun r _=>r=.v (.bool true))) (a:Option Addr) (len cap:Nat) (zs:List Int) (w:World) (h:ARow w a len cap zs) :
  Calls Tryz.prog f #[.slice a len cap] w fun e w'=>e=.returned (.bool true)∧Below w.heap.size w w':=by
 obtain ⟨l,hl,hrep⟩:=arow_rep h
 refine ((hlaw l H0 hl).calls _ w #[.slice a len cap] (hsim_all w) rfl (fun j hj=>?_)).mono ?_
 ·simp only [List.length_cons,List.length_nil,Nat.zero_add,Nat.lt_one_iff] at hj
  subst hj
  exact hrep
 ·rintro _ w' ⟨r,h',G',v,rfl,rfl,_,f,_,hv⟩
  exact ⟨by rw [rep_v_inv0 hv],below_of_fr f⟩
end Go.Proofs.YtidkkmoiolffnaaGreatDoor
