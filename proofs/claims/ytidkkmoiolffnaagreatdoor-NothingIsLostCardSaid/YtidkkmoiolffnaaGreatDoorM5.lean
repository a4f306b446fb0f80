/- signkeep1.NothingIsLost returns true for every list of numbers. -/
import Derived.Test.YtidkkmoiolffnaaGreatDoorM4
namespace Go.Proofs.YtidkkmoiolffnaaGreatDoor
open Go
set_option linter.unusedVariables false
set_option linter.unusedSimpArgs false
open Nat renaming reduceAdd→nA,reduceSub→nB,reduceMul→nC,reduceLT→nD,reduceLeDiff→nE,reduceEqDiff→nF,reduceMod→nG,reduceDiv→nH,reducePow→nI
set_option maxRecDepth 100000
set_option maxHeartbeats 8000000
abbrev zM50:Option Tmp→Nat:=mdL [(4,1),(6,1),(17,1),(20,1),(22,1),(24,2),(26,1),(31,2)]
attribute [go_sem] zM50
theorem g_lawNothing (l:List Int) (h:Hp) (hl:SOk l):ACalls Tryz.prog 7 [.row 1 (l.map encI) none] h (fun r _=>r=.v (.bool true)):=by
 have hc3:costR 3=1190:=by simp [costR]
 refine gE Tryz.func7 rfl (by kernel_rfl) 208 rfl fun c=>?_
 (repeat (first|refine gQ rfl ?_|(refine gM zM50 fun K1 hK1=>?_;simp only [go_sem,↓reduceIte,reduceCtorEq,nA,nB,nC,nD,nE,nF]<;>and_intros<;>first|(apply hK1;clear hK1 K1)|skip)))
 intro i hi
 refine hK1 _ ?_;clear hK1 K1
 have e0:({ H:=upd h.H i (some (.cells [.row 1 (l.map encI) none,.v (.int .i64 0)])),T:=h.T }:Hp)=h.st i l 0:=rfl
 rw [e0]
 (repeat (first|refine gQ rfl ?_|(refine gM zM50 fun K1 hK1=>?_;simp only [go_sem,↓reduceIte,reduceCtorEq,nA,nB,nC,nD,nE,nF]<;>and_intros)))
 refine (g_rightK 3 3 (by omega) i l 0 h hl (by omega)).mono ?_;rintro _ _ ⟨t,a1,ht,ha1,rfl,rfl⟩;apply hK1;clear hK1 K1
 have hlen:=encX_len t
 have htk:List.take 6 (encX t)=encX t:=List.take_of_length_le (Nat.le_of_eq hlen)
 have hdr:List.drop 6 (encX t)=[]:=List.drop_of_length_le (Nat.le_of_eq hlen)
 (repeat ((refine gM zM50 fun K1 hK1=>?_;simp only [go_sem,↓reduceIte,reduceCtorEq,nA,nB,nC,nD,nE,nF,hlen,htk,hdr]<;>and_intros)))
 refine (g_breaks i l a1 h hl (by omega)).mono ?_;rintro _ _ ⟨bs,a2,hbl,hbs,ha2,rfl,rfl⟩;apply hK1;clear hK1 K1
 (repeat ((refine gM zM50 fun K1 hK1=>?_;simp only [go_sem,↓reduceIte,reduceCtorEq,nA,nB,nC,nD,nE,nF,hlen,htk,hdr]<;>and_intros)))
 refine (g_span i l a2 h hl (by omega)).mono ?_;rintro _ _ ⟨w0,w1,a3,_,_,ha3,rfl,rfl⟩;apply hK1;clear hK1 K1
 have hLC:=(ht.mono (e:=23) (by omega)).lc
 have hkt:KC 23 t:=hLC.kc
 have hmt:=size_small23 hLC
 have hw:=encX_weak 23 t hLC
 have hft:=ht.fault
 have hb2:=fun h=>g_brkR bs h hbs (by omega)
 have hwi:=fun h=>g_window w0 w1 h
 have hRu:=fun m h=>(g_Run 23 t bs w0 w1 m h hkt hmt hbs (by omega)).weakArgs (args':=[.agg (encX t),.agg [.v (.int .i64 w0),.v (.int .i64 w1)],.row 3 (bs.map encW) none,.v (.int .i64 m)]) rfl (weak4 hw (Weak.refl _) (Weak.refl _) (Weak.refl _))
 have hLo:=fun m h=>(g_Lost 23 t bs w0 w1 m h hkt hmt hbs (by omega)).weakArgs (args':=[.agg (encX t),.agg [.v (.int .i64 w0),.v (.int .i64 w1)],.row 3 (bs.map encW) none,.v (.int .i64 m)]) rfl (weak4 hw (Weak.refl _) (Weak.refl _) (Weak.refl _))
 clear ha1 ha2 ha3 hc3 e0
 generalize h.st i l a3=h1
 (repeat (first|refine gO rfl ?_|(refine gM zM50 fun K1 hK1=>?_;simp only [go_sem,↓reduceIte,reduceCtorEq,nA,nB,nC,nD,nE,nF,hlen,htk,hdr]<;>and_intros<;>first|(apply hK1;clear hK1 K1)|skip)))
 refine (hb2 _).mono ?_;rintro _ hz ⟨rfl,hh⟩;apply hK1;clear hK1 K1;rw [hh];clear hh hz
 by_cases hbe:brkE bs=0
 ·rw [hbe]
  (repeat ((refine gM zM50 fun K1 hK1=>?_;simp only [go_sem,↓reduceIte,reduceCtorEq,nA,nB,nC,nD,nE,nF,Int.reduceBNe]<;>and_intros<;>first|(intros;(simp_all<;>omega))|skip)))
  refine (hwi _).mono ?_
  rintro _ _ ⟨rfl,rfl⟩
  refine ⟨rfl,hK1 _ ?_⟩;clear hK1 K1 hwi hb2
  by_cases hwe:winE w0 w1=0
  ·rw [hwe]
   (repeat (first|refine gO rfl ?_|(refine gM zM50 fun K1 hK1=>?_;simp only [go_sem,↓reduceIte,reduceCtorEq,nA,nB,nC,nD,nE,nF,Int.reduceBNe]<;>and_intros<;>(apply hK1;clear hK1 K1))))
   refine awp_cond (t:=_) rfl (fun _=>?_) (fun h9=>?_)
   ·(repeat ((refine gM zM50 fun K1 hK1=>?_;simp only [go_sem,↓reduceIte,reduceCtorEq,nA,nB,nC,nD,nE,nF]<;>and_intros)))
    refine (g_ready _).mono ?_
    rintro _ h5 rfl
    refine hK1 _ ?_;clear hK1 K1
    (repeat (first|refine gO rfl ?_|(refine gM zM50 fun K1 hK1=>?_;simp only [go_sem,↓reduceIte,reduceCtorEq,nA,nB,nC,nD,nE,nF]<;>and_intros<;>(apply hK1;clear hK1 K1))))
    simp only [Tryz.results7,go_sem,↓reduceIte,reduceCtorEq,nA,nB,nC,nD,nE,nF]
    exact ⟨_,_,Weak.refl _,Hp.le.refl _,rfl⟩
   ·(repeat (first|refine gO rfl ?_|(refine gM zM50 fun K1 hK1=>?_;simp only [go_sem,↓reduceIte,reduceCtorEq,nA,nB,nC,nD,nE,nF,hlen,htk,hdr]<;>and_intros)))
    refine (hRu 1 _).mono ?_
    rintro r h2 hr
    obtain ⟨X,e1,rfl,hX⟩:=hr.two ht hbe hwe (.inl rfl)
    refine hK1 _ ?_;clear hK1 K1 hr
    (repeat (first|refine gO rfl ?_|(refine gM zM50 fun K1 hK1=>?_;simp only [go_sem,↓reduceIte,reduceCtorEq,nA,nB,nC,nD,nE,nF,hlen,htk,hdr]<;>and_intros<;>first|(apply hK1;clear hK1 K1)|skip)))
    refine (hLo 1 _).mono ?_
    rintro r h3 hr
    obtain ⟨L,e2,rfl,hL⟩:=hr.two ht hbe hwe (.inl rfl)
    refine hK1 _ ?_;clear hK1 K1 hr hLo
    (repeat (first|refine gO rfl ?_|(refine gM zM50 fun K1 hK1=>?_;simp only [go_sem,↓reduceIte,reduceCtorEq,nA,nB,nC,nD,nE,nF,hlen,htk,hdr]<;>and_intros<;>first|(apply hK1;clear hK1 K1)|skip)))
    refine (hRu 4 _).mono ?_
    rintro r h4 hr
    obtain ⟨Y,e3,rfl,hY⟩:=hr.two ht hbe hwe (.inr rfl)
    refine hK1 _ ?_;clear hK1 K1 hr hRu
    rcases hX with rfl|⟨rfl,hrd,hX3,hXU⟩
    ·(repeat (first|refine gO rfl ?_|(refine gM zM50 fun K1 hK1=>?_;simp only [go_sem,↓reduceIte,reduceCtorEq,nA,nB,nC,nD,nE,nF,Int.reduceBEq]<;>and_intros<;>(apply hK1;clear hK1 K1))))
     refine awp_cond (t:=_) rfl (fun _=>?_) (fun h9=>by cases h9)
     (repeat ((refine gM zM50 fun K1 hK1=>?_;simp only [go_sem,↓reduceIte,reduceCtorEq,nA,nB,nC,nD,nE,nF]<;>and_intros)))
     refine (g_ready _).mono ?_
     rintro _ h5 rfl
     refine hK1 _ ?_;clear hK1 K1
     (repeat (first|refine gO rfl ?_|(refine gM zM50 fun K1 hK1=>?_;simp only [go_sem,↓reduceIte,reduceCtorEq,nA,nB,nC,nD,nE,nF]<;>and_intros<;>(apply hK1;clear hK1 K1))))
     simp only [Tryz.results7,go_sem,↓reduceIte,reduceCtorEq,nA,nB,nC,nD,nE,nF]
     exact ⟨_,_,Weak.refl _,Hp.le.refl _,rfl⟩
    rcases hL with rfl|⟨rfl,hL3,hLU⟩
    ·(repeat (first|refine gO rfl ?_|(refine gM zM50 fun K1 hK1=>?_;simp only [go_sem,↓reduceIte,reduceCtorEq,nA,nB,nC,nD,nE,nF,Int.reduceBEq]<;>and_intros<;>(apply hK1;clear hK1 K1))))
     refine awp_cond (t:=_) rfl (fun _=>?_) (fun h9=>by cases h9)
     (repeat ((refine gM zM50 fun K1 hK1=>?_;simp only [go_sem,↓reduceIte,reduceCtorEq,nA,nB,nC,nD,nE,nF]<;>and_intros)))
     refine (g_ready _).mono ?_
     rintro _ h5 rfl
     refine hK1 _ ?_;clear hK1 K1
     (repeat (first|refine gO rfl ?_|(refine gM zM50 fun K1 hK1=>?_;simp only [go_sem,↓reduceIte,reduceCtorEq,nA,nB,nC,nD,nE,nF]<;>and_intros<;>(apply hK1;clear hK1 K1))))
     simp only [Tryz.results7,go_sem,↓reduceIte,reduceCtorEq,nA,nB,nC,nD,nE,nF]
     exact ⟨_,_,Weak.refl _,Hp.le.refl _,rfl⟩
    rcases hY with rfl|⟨rfl,_,hY3,hYU⟩
    ·(repeat (first|refine gO rfl ?_|(refine gM zM50 fun K1 hK1=>?_;simp only [go_sem,↓reduceIte,reduceCtorEq,nA,nB,nC,nD,nE,nF,Int.reduceBEq]<;>and_intros<;>(apply hK1;clear hK1 K1))))
     refine awp_cond (t:=_) rfl (fun _=>?_) (fun h9=>by cases h9)
     (repeat ((refine gM zM50 fun K1 hK1=>?_;simp only [go_sem,↓reduceIte,reduceCtorEq,nA,nB,nC,nD,nE,nF]<;>and_intros)))
     refine (g_ready _).mono ?_
     rintro _ h5 rfl
     refine hK1 _ ?_;clear hK1 K1
     (repeat (first|refine gO rfl ?_|(refine gM zM50 fun K1 hK1=>?_;simp only [go_sem,↓reduceIte,reduceCtorEq,nA,nB,nC,nD,nE,nF]<;>and_intros<;>(apply hK1;clear hK1 K1))))
     simp only [Tryz.results7,go_sem,↓reduceIte,reduceCtorEq,nA,nB,nC,nD,nE,nF]
     exact ⟨_,_,Weak.refl _,Hp.le.refl _,rfl⟩
    have hpl:=plyE_rd ht hbe hwe (m:=1) (.inl rfl)
    rw [hrd] at hpl
    have hF:=nil_facts hkt hpl hXU hYU hLU
    obtain ⟨hgd,⟨hbk,_⟩,hw012,_⟩:=plyE_ok hkt hpl
    clear hXU hYU hLU hpl
    (repeat (first|refine gO rfl ?_|(refine gM zM50 fun K1 hK1=>?_;simp only [go_sem,↓reduceIte,reduceCtorEq,nA,nB,nC,nD,nE,nF,Int.reduceBEq,Int.reduceBNe]<;>and_intros<;>(apply hK1;clear hK1 K1))))
    refine awp_cond (t:=_) rfl (fun h9=>by cases h9) (fun _=>?_)
    (repeat (first|refine gO rfl ?_|(refine gM zM50 fun K1 hK1=>?_;simp only [go_sem,↓reduceIte,reduceCtorEq,nA,nB,nC,nD,nE,nF,Int.reduceBEq,Int.reduceBNe]<;>and_intros<;>(apply hK1;clear hK1 K1))))
    refine awp_cond (t:=_) rfl (fun h9=>by cases h9) (fun _=>?_)
    (repeat (first|refine gO rfl ?_|(refine gM zM50 fun K1 hK1=>?_;simp only [go_sem,↓reduceIte,reduceCtorEq,nA,nB,nC,nD,nE,nF]<;>and_intros<;>first|(apply hK1;clear hK1 K1)|(intros;(decide)))))
    refine awp_loopC (rl false [4,3,2,1,1,1,86,3,108]) 2 (fun g s=>∃ j:Nat,g+j=2 ∧
     s=⟨((jnk 4 ((.loc 0 0) :: (.row 3 (bs.map encW) none) :: (.loc 1 0) :: AV.junk :: AV.junk :: ((.row 5 (L.map encLo) none) :: AV.junk :: ((.row 4 (Y.map encP) none) :: (jnk 86 ((.row 1 [[.row 4 (X.map encP) none],[.row 4 (Y.map encP) none]] none) :: (.v (.int .i64 2)) :: (.v (.int .i64 j)) :: (jnk 108 [])))))))),[encX t,[.v (.int .i64 w0),.v (.int .i64 w1)]],h4⟩) 2 ⟨0,by omega,rfl⟩ ?_
    ·rintro g _ ⟨j,hj,rfl⟩
     (repeat (first|refine gO rfl ?_|(refine gM zM50 fun K1 hK1=>?_;simp only [go_sem,↓reduceIte,reduceCtorEq,nA,nB,nC,nD,nE,nF]<;>and_intros<;>(apply hK1;clear hK1 K1))))
     refine awp_cond (t:=_) rfl (fun hq=>?_) (fun hq=>?_)
     ·simp only [decide_eq_true_eq] at hq
      have hj2:j < 2:=by omega
      obtain ⟨P,hg1,hP3,hPx,hPe⟩:∃ P:List Pl,([[.row 4 (X.map encP) none],[.row 4 (Y.map encP) none]]:List (List AV)).getD j []=[.row 4 (P.map encP) none]∧P.length≤3000∧(∀ k,k < P.length→(P.getD k default).2.1=w0+durL (P.take k)∧1≤(P.getD k default).2.2∧0≤durL (P.take k)∧w0+durL (P.take k)+(P.getD k default).2.2≤w1)∧w0+durL P=w1:=by
       rcases j with _|_|j
       ·exact ⟨X,rfl,hX3,hF.x,hF.xe⟩
       ·exact ⟨Y,rfl,hY3,hF.y,hF.ye⟩
       ·omega
      (repeat (first|refine gO rfl ?_|(refine gM zM50 fun K1 hK1=>?_;simp only [go_sem,↓reduceIte,reduceCtorEq,nA,nB,nC,nD,nE,nF,Int.toNat_natCast,hg1,List.length_map]<;>and_intros<;>first|(apply hK1;clear hK1 K1)|(intros;(omega)))))
      refine awp_loopC (rl false [4,3,2,1,1,1,3,1,82,3,5,3,100]) 2 (fun g2 s=>∃ (k:Nat) (a:Int),g2+k=P.length∧a=w0+durL (P.take k) ∧
       s=⟨((jnk 4 ((.loc 0 0) :: (.row 3 (bs.map encW) none) :: (.loc 1 0) :: AV.junk :: AV.junk :: ((.row 5 (L.map encLo) none) :: AV.junk :: ((.row 4 (Y.map encP) none) :: (jnk 3 ((.v (.int .i64 a)) :: (jnk 82 ((.row 1 [[.row 4 (X.map encP) none],[.row 4 (Y.map encP) none]] none) :: (.v (.int .i64 2)) :: (.v (.int .i64 j)) :: (jnk 5 ((.row 4 (P.map encP) none) :: (.v (.int .i64 P.length)) :: (.v (.int .i64 k)) :: (jnk 100 [])))))))))))),[encX t,[.v (.int .i64 w0),.v (.int .i64 w1)]],h4⟩) P.length ⟨0,w0,by omega,by simp [durL],rfl⟩ ?_
      rintro g2 _ ⟨k,a,hk,ha,rfl⟩
      (repeat (first|refine gO rfl ?_|(refine gM zM50 fun K1 hK1=>?_;simp only [go_sem,↓reduceIte,reduceCtorEq,nA,nB,nC,nD,nE,nF]<;>and_intros<;>(apply hK1;clear hK1 K1))))
      refine awp_cond (t:=_) rfl (fun hq2=>?_) (fun hq2=>?_)
      ·simp only [decide_eq_true_eq] at hq2
       have hkP:k < P.length:=by omega
       obtain ⟨f1,f2,f3,f4⟩:=hPx k hkP
       have hds:=durL_succ P k hkP
       have hgk:(P.map encP).getD k []=encP (P.getD k default):=getD_enc encP P k default hkP
       generalize P.getD k default=y at *
       obtain ⟨yi,ya,yl⟩:=y
       simp only at f1 f2 f3 f4 hds
       obtain rfl:ya=a:=by omega
       replace hgk:(P.map encP).getD k []=[.v (.string ⟨#[]⟩),.v (.string yi),.v (.int .i64 ya),.v (.int .i64 yl)]:=hgk
       have hbn:(ya != ya)=false:=by simp
       have hy1:decide (yl < 1)=false:=by simp;omega
       have hst:((⟨#[]⟩:ByteArray) != ⟨#[]⟩)=false:=by decide
       have hab:0≤ya∧ya≤345686400000:=by omega
       have hyb:yl≤345686400000:=by omega
       (repeat (first|refine gO rfl ?_|(refine gM zM50 fun K1 hK1=>?_;simp only [go_sem,↓reduceIte,reduceCtorEq,nA,nB,nC,nD,nE,nF,Int.toNat_natCast,hgk,hbn,hy1,hst]<;>and_intros<;>first|(apply hK1;clear hK1 K1)|(intros;(omega)))))
       refine awp_cond (t:=_) rfl (fun h9=>by cases h9) (fun _=>?_)
       (repeat (first|refine gO rfl ?_|(refine gM zM50 fun K1 hK1=>?_;simp only [go_sem,↓reduceIte,reduceCtorEq,nA,nB,nC,nD,nE,nF,Int.toNat_natCast]<;>and_intros<;>first|(apply hK1;clear hK1 K1)|(intros;(omega)))))
       exact ⟨g2 - 1,by omega,k+1,ya+yl,by omega,by omega,rfl⟩
      ·simp only [decide_eq_false_iff_not] at hq2
       have hkP:k=P.length:=by omega
       subst hkP
       rw [List.take_length] at ha
       obtain rfl:a=w1:=by omega
       have hbn:(a != a)=false:=by simp
       (repeat (first|refine gO rfl ?_|(refine gM zM50 fun K1 hK1=>?_;simp only [go_sem,↓reduceIte,reduceCtorEq,nA,nB,nC,nD,nE,nF,hbn]<;>and_intros<;>(apply hK1;clear hK1 K1))))
       refine awp_cond (t:=_) rfl (fun h9=>by cases h9) (fun _=>?_)
       (repeat (first|refine gO rfl ?_|(refine gM zM50 fun K1 hK1=>?_;simp only [go_sem,↓reduceIte,reduceCtorEq,nA,nB,nC,nD,nE,nF]<;>and_intros<;>first|(apply hK1;clear hK1 K1)|(intros;(omega)))))
       exact ⟨g - 1,by omega,j+1,by omega,rfl⟩
     ·simp only [decide_eq_false_iff_not] at hq
      have hj2:j=2:=by omega
      subst hj2
      (repeat (first|refine gO rfl ?_|(refine gM zM50 fun K1 hK1=>?_;simp only [go_sem,↓reduceIte,reduceCtorEq,nA,nB,nC,nD,nE,nF,List.length_map]<;>and_intros<;>(apply hK1;clear hK1 K1))))
      have hbb:=takeB_bd (w0:=w0) (w1:=w1) (by omega) (by omega)
      refine awp_loopC (rl false [4,3,2,1,1,1,6,1,117,3,70]) 2 (fun g s=>∃ (k:Nat) (a:Int),g+k=bs.length∧a=takeB w0 w1 (bs.take k) ∧
       s=⟨((jnk 4 ((.loc 0 0) :: (.row 3 (bs.map encW) none) :: (.loc 1 0) :: AV.junk :: AV.junk :: ((.row 5 (L.map encLo) none) :: AV.junk :: ((.row 4 (Y.map encP) none) :: (jnk 6 ((.v (.int .i64 a)) :: (jnk 117 ((.row 3 (bs.map encW) none) :: (.v (.int .i64 bs.length)) :: (.v (.int .i64 k)) :: (jnk 70 [])))))))))),[encX t,[.v (.int .i64 w0),.v (.int .i64 w1)]],h4⟩) bs.length ⟨0,0,by omega,by simp [takeB],rfl⟩ ?_
      rintro g _ ⟨k,a,hk,ha,rfl⟩
      (repeat (first|refine gO rfl ?_|(refine gM zM50 fun K1 hK1=>?_;simp only [go_sem,↓reduceIte,reduceCtorEq,nA,nB,nC,nD,nE,nF]<;>and_intros<;>(apply hK1;clear hK1 K1))))
      refine awp_cond (t:=_) rfl (fun hq2=>?_) (fun hq2=>?_)
      ·simp only [decide_eq_true_eq] at hq2
       have hkP:k < bs.length:=by omega
       have hts:=takeB_succ w0 w1 bs k hkP
       have hbk1:=hbb (bs.take k)
       have hkl:(bs.take k).length≤4:=by rw [List.length_take];omega
       have hok:=hbs _ (getD_mem' bs k default hkP)
       have hgk:(bs.map encW).getD k []=encW (bs.getD k default):=getD_enc encW bs k default hkP
       generalize bs.getD k default=y at *
       obtain ⟨yi,ya,yl⟩:=y
       obtain ⟨_,⟨o1,o2⟩,o3,o4⟩:=hok
       simp only at o1 o2 o3 o4
       have hts2:takeB w0 w1 (bs.take (k+1))=takeB w0 w1 (bs.take k)+max 0 (min yl w1 - max ya w0):=hts
       replace hgk:(bs.map encW).getD k []=[.v (.string yi),.v (.int .i64 ya),.v (.int .i64 yl)]:=hgk
       have ha1:0≤a∧a≤2000000000000:=by omega
       clear hbk1 hts hkl
       (repeat (first|refine gO rfl ?_|(refine gM zM50 fun K1 hK1=>?_;simp only [go_sem,↓reduceIte,reduceCtorEq,nA,nB,nC,nD,nE,nF,Int.toNat_natCast,hgk]<;>and_intros<;>first|(apply hK1;clear hK1 K1)|(intros;(omega)))))
       exact ⟨g - 1,by omega,k+1,a+max 0 (min yl w1 - max ya w0),by omega,by omega,rfl⟩
      ·simp only [decide_eq_false_iff_not] at hq2
       have hkP:k=bs.length:=by omega
       subst hkP
       rw [List.take_length] at ha
       have hba:=hbb bs
       have ha1:0≤a∧a≤2000000000000:=by omega
       clear hbb
       (repeat (first|refine gO rfl ?_|(refine gM zM50 fun K1 hK1=>?_;simp only [go_sem,↓reduceIte,reduceCtorEq,nA,nB,nC,nD,nE,nF,List.length_map]<;>and_intros<;>(apply hK1;clear hK1 K1))))
       obtain ⟨b,hbz⟩:∃ b,b=a:=⟨_,rfl⟩
       have hlb:∀ k,-20000000000 * (L.take k).length≤losL (L.take k)∧losL (L.take k)≤20000000000 * (L.take k).length:=fun k=>losL_bd _ fun x hx=>hF.lbd x (List.mem_of_mem_take hx)
       rw [← hbz]
       refine awp_loopC (rl false [4,3,4,1,6,1,140,3,47]) 2 (fun g s=>∃ (k:Nat) (b:Int),g+k=L.length∧b=a - losL (L.take k) ∧
        s=⟨((jnk 4 ((.loc 0 0) :: (.row 3 (bs.map encW) none) :: (.loc 1 0) :: (jnk 4 ((.row 4 (Y.map encP) none) :: (jnk 6 ((.v (.int .i64 b)) :: (jnk 140 ((.row 5 (L.map encLo) none) :: (.v (.int .i64 L.length)) :: (.v (.int .i64 k)) :: (jnk 47 [])))))))))),[encX t,[.v (.int .i64 w0),.v (.int .i64 w1)]],h4⟩) L.length ⟨0,b,by omega,by simp [losL,hbz],rfl⟩ ?_
       clear hbz
       rintro g _ ⟨k,b,hk,hb,rfl⟩
       (repeat (first|refine gO rfl ?_|(refine gM zM50 fun K1 hK1=>?_;simp only [go_sem,↓reduceIte,reduceCtorEq,nA,nB,nC,nD,nE,nF]<;>and_intros<;>(apply hK1;clear hK1 K1))))
       refine awp_cond (t:=_) rfl (fun hq2=>?_) (fun hq2=>?_)
       ·simp only [decide_eq_true_eq] at hq2
        have hkP:k < L.length:=by omega
        have hts:=losL_succ L k hkP
        have hb1:=hlb k
        have hkl:(L.take k).length≤5000:=by rw [List.length_take];omega
        have hyb:=hF.lbd _ (getD_mem' L k default hkP)
        have hgk:(L.map encLo).getD k []=encLo (L.getD k default):=getD_enc encLo L k default hkP
        generalize L.getD k default=y at *
        obtain ⟨yi,ya,yl⟩:=y
        simp only at hyb hts
        replace hgk:(L.map encLo).getD k []=[.v (.string yi),.v (.int .i64 ya),.v (.int .i64 1),.v (.int .i64 yl),.v (.int .i64 1)]:=hgk
        have hb2:-200000000000000≤b∧b≤200000000000000:=by omega
        clear hb1 hkl
        (repeat (first|refine gO rfl ?_|(refine gM zM50 fun K1 hK1=>?_;simp only [go_sem,↓reduceIte,reduceCtorEq,nA,nB,nC,nD,nE,nF,Int.toNat_natCast,hgk]<;>and_intros<;>first|(apply hK1;clear hK1 K1)|(intros;(omega)))))
        exact ⟨g - 1,by omega,k+1,b - yl,by omega,by omega,rfl⟩
       ·simp only [decide_eq_false_iff_not] at hq2
        have hkP:k=L.length:=by omega
        subst hkP
        rw [List.take_length] at hb
        have hbz:b=0:=by have:=hF.lost;omega
        subst hbz
        clear hlb
        (repeat (first|refine gO rfl ?_|(refine gM zM50 fun K1 hK1=>?_;simp only [go_sem,↓reduceIte,reduceCtorEq,nA,nB,nC,nD,nE,nF,List.length_map]<;>and_intros<;>(apply hK1;clear hK1 K1))))
        refine awp_loopC (rl false [4,3,11,1,152,3,35]) 2 (fun g s=>∃ (k:Nat) (h':Hp),g+k=Y.length ∧
         s=⟨((jnk 4 ((.loc 0 0) :: (.row 3 (bs.map encW) none) :: (.loc 1 0) :: (jnk 11 ((.v (.int .i64 0)) :: (jnk 152 ((.row 4 (Y.map encP) none) :: (.v (.int .i64 Y.length)) :: (.v (.int .i64 k)) :: (jnk 35 [])))))))),[encX t,[.v (.int .i64 w0),.v (.int .i64 w1)]],h'⟩) Y.length ⟨0,h4,by omega,rfl⟩ ?_
        rintro g _ ⟨k,h6,hk,rfl⟩
        (repeat (first|refine gO rfl ?_|(refine gM zM50 fun K1 hK1=>?_;simp only [go_sem,↓reduceIte,reduceCtorEq,nA,nB,nC,nD,nE,nF]<;>and_intros<;>(apply hK1;clear hK1 K1))))
        refine awp_cond (t:=_) rfl (fun hq3=>?_) (fun hq3=>?_)
        ·simp only [decide_eq_true_eq] at hq3
         have hkP:k < Y.length:=by omega
         have hsn:=hF.seen _ (getD_mem' Y k default hkP)
         have hgk:(Y.map encP).getD k []=encP (Y.getD k default):=getD_enc encP Y k default hkP
         generalize Y.getD k default=y at *
         obtain ⟨yi,ya,yl⟩:=y
         have hgk2:(Y.map encP).getD k []=[.v (.string ⟨#[]⟩),.v (.string yi),.v (.int .i64 ya),.v (.int .i64 yl)]:=hgk
         clear hgk
         (repeat (first|refine gO rfl ?_|(refine gM zM50 fun K1 hK1=>?_;simp only [go_sem,↓reduceIte,reduceCtorEq,nA,nB,nC,nD,nE,nF,Int.toNat_natCast,hgk2]<;>and_intros<;>first|(intros;(omega))|skip)))
         intro q hq
         refine hK1 _ ?_;clear hK1 K1
         have hHq:(upd h6.H q (some (AO.cells [.v (.string ⟨#[]⟩),.v (.string yi),.v (.int .i64 ya),.v (.int .i64 yl)]))) q=some (AO.cells (encP (yi,ya,yl))):=by simp [upd,encP]
         generalize hh7:({ H:=upd h6.H q (some (AO.cells [.v (.string ⟨#[]⟩),.v (.string yi),.v (.int .i64 ya),.v (.int .i64 yl)])),T:=h6.T }:Hp)=h7
         replace hHq:h7.H q=some (AO.cells (encP (yi,ya,yl))):=by rw [← hh7];exact hHq
         clear hh7
         have hHq2:h7.H q=some (AO.cells [.v (.string ⟨#[]⟩),.v (.string yi),.v (.int .i64 ya),.v (.int .i64 yl)]):=hHq
         (repeat (first|refine gO rfl ?_|(refine gM zM50 fun K1 hK1=>?_;simp only [go_sem,↓reduceIte,reduceCtorEq,nA,nB,nC,nD,nE,nF,hHq2]<;>and_intros<;>first|(intros;(decide))|skip)))
         refine (g_anyBr q (yi,ya,yl) bs _ hHq (by omega)).mono ?_
         rintro _ _ ⟨rfl,rfl⟩
         refine hK1 _ ?_;clear hK1 K1
         (repeat (first|refine gO rfl ?_|(refine gM zM50 fun K1 hK1=>?_;simp only [go_sem,↓reduceIte,reduceCtorEq,nA,nB,nC,nD,nE,nF,hHq2,hlen,htk,hdr]<;>and_intros<;>first|(apply hK1;clear hK1 K1)|skip)))
         refine (((g_OnAt 23 t w0 ya ⟨fun _=>none,fun _=>none⟩ hkt hmt).weakArgs (args':=[.agg (encX t),.v (.int .i64 w0),.v (.int .i64 ya)]) rfl (weak3 hw (Weak.refl _) (Weak.refl _))).frame _).mono ?_
         rintro r h8 ⟨_,⟨⟨si,sz⟩,cc,rfl,hsc⟩,hkeep,_,_⟩
         refine hK1 _ ?_;clear hK1 K1
         have hHq3:h8.H q=some (AO.cells [.v (.string ⟨#[]⟩),.v (.string yi),.v (.int .i64 ya),.v (.int .i64 yl)]):=(hkeep q (by rw [hHq2];simp)).trans hHq2
         clear hkeep hHq hHq2
         have hes:encStep (si,sz)=[.v (.string si),.v (.int .i64 sz)]:=rfl
         cases hib:bs.any (inBr (yi,ya,yl)) with
         | true =>
          (repeat (first|refine gO rfl ?_|(refine gM zM50 fun K1 hK1=>?_;simp only [go_sem,↓reduceIte,reduceCtorEq,nA,nB,nC,nD,nE,nF,hHq3,hes,Bool.not_true]<;>and_intros<;>(apply hK1;clear hK1 K1))))
          refine awp_cond (t:=_) rfl (fun h9=>by cases h9) (fun _=>?_)
          (repeat (first|refine gO rfl ?_|(refine gM zM50 fun K1 hK1=>?_;simp only [go_sem,↓reduceIte,reduceCtorEq,nA,nB,nC,nD,nE,nF]<;>and_intros<;>first|(apply hK1;clear hK1 K1)|(intros;(omega)))))
          exact ⟨g - 1,by omega,k+1,_,by omega,rfl⟩
         | false =>
          obtain ⟨hte,hit⟩:timeE w0 ya=0∧yi=((rdS 23 t).getD (posF (rdS 23 t) ((ya - w0).tmod (sumL (rdS 23 t)))) default).1:=by
           rcases hsn with h9|h9
           ·exact absurd (show bs.any (inBr (yi,ya,yl))=true from h9) (by rw [hib];decide)
           ·exact h9
          have hoz:orI [faultF t,timeE w0 ya,rdE 23 t]=0:=by rw [hft,hte,hrd];rfl
          have hsi:=(hsc hoz).1
          rw [← hsi] at hit
          replace hit:yi=si:=hit
          subst hit
          have hbe2:(yi == yi)=true:=by rw [ba_beq];simp
          have hbn:(yi != yi)=false:=by unfold bne;rw [hbe2];rfl
          rw [hoz]
          (repeat (first|refine gO rfl ?_|(refine gM zM50 fun K1 hK1=>?_;simp only [go_sem,↓reduceIte,reduceCtorEq,nA,nB,nC,nD,nE,nF,hHq3,hes,hbn,hbe2,Bool.not_false,Bool.not_true,Int.reduceBNe]<;>and_intros<;>(apply hK1;clear hK1 K1))))
          refine awp_cond (t:=_) rfl (fun h9=>by cases h9) (fun _=>?_)
          (repeat (first|refine gO rfl ?_|(refine gM zM50 fun K1 hK1=>?_;simp only [go_sem,↓reduceIte,reduceCtorEq,nA,nB,nC,nD,nE,nF]<;>and_intros<;>first|(apply hK1;clear hK1 K1)|(intros;(omega)))))
          exact ⟨g - 1,by omega,k+1,_,by omega,rfl⟩
        ·simp only [decide_eq_false_iff_not] at hq3
         (repeat (first|refine gO rfl ?_|(refine gM zM50 fun K1 hK1=>?_;simp only [go_sem,↓reduceIte,reduceCtorEq,nA,nB,nC,nD,nE,nF,Int.reduceBEq]<;>and_intros<;>first|(intros;(simp_all<;>omega))|skip)))
         refine (g_ready _).mono ?_
         rintro _ h5 rfl
         refine ⟨rfl,hK1 _ ?_⟩;clear hK1 K1
         (repeat (first|refine gO rfl ?_|(refine gM zM50 fun K1 hK1=>?_;simp only [go_sem,↓reduceIte,reduceCtorEq,nA,nB,nC,nD,nE,nF]<;>and_intros<;>(apply hK1;clear hK1 K1))))
         simp only [Tryz.results7,go_sem,↓reduceIte,reduceCtorEq,nA,nB,nC,nD,nE,nF]
         exact ⟨_,_,Weak.refl _,Hp.le.refl _,rfl⟩
  ·have hb9:(winE w0 w1 != 0)=true:=by simpa using hwe
   (repeat (first|refine gO rfl ?_|(refine gM zM50 fun K1 hK1=>?_;simp only [go_sem,↓reduceIte,reduceCtorEq,nA,nB,nC,nD,nE,nF,hb9]<;>and_intros<;>(apply hK1;clear hK1 K1))))
   refine awp_cond (t:=_) rfl (fun _=>?_) (fun h9=>by cases h9)
   (repeat ((refine gM zM50 fun K1 hK1=>?_;simp only [go_sem,↓reduceIte,reduceCtorEq,nA,nB,nC,nD,nE,nF]<;>and_intros)))
   refine (g_ready _).mono ?_
   rintro _ h5 rfl
   refine hK1 _ ?_;clear hK1 K1
   (repeat (first|refine gO rfl ?_|(refine gM zM50 fun K1 hK1=>?_;simp only [go_sem,↓reduceIte,reduceCtorEq,nA,nB,nC,nD,nE,nF]<;>and_intros<;>(apply hK1;clear hK1 K1))))
   simp only [Tryz.results7,go_sem,↓reduceIte,reduceCtorEq,nA,nB,nC,nD,nE,nF]
   exact ⟨_,_,Weak.refl _,Hp.le.refl _,rfl⟩
 ·have hb9:(brkE bs != 0)=true:=by simpa using hbe
  (repeat ((refine gM zM50 fun K1 hK1=>?_;simp only [go_sem,↓reduceIte,reduceCtorEq,nA,nB,nC,nD,nE,nF,hb9]<;>and_intros<;>first|(apply hK1;clear hK1 K1)|skip)))
  refine ⟨.v (.bool false),rfl,True.intro,?_⟩
  simp only [go_sem,↓reduceIte,reduceCtorEq,Nat.reduceAdd,Nat.reduceSub,Nat.reduceMul,Nat.reduceLT,Nat.reduceLeDiff,Nat.reduceEqDiff,Bool.not_true]
  refine hK1 _ ?_;clear hK1 K1
  (repeat ((refine gO rfl ?_)))
  refine awp_cond (t:=_) rfl (fun _=>?_) (fun h9=>by cases h9)
  (repeat ((refine gM zM50 fun K1 hK1=>?_;simp only [go_sem,↓reduceIte,reduceCtorEq,nA,nB,nC,nD,nE,nF]<;>and_intros)))
  refine (g_ready _).mono ?_
  rintro _ h5 rfl
  refine hK1 _ ?_;clear hK1 K1
  (repeat (first|refine gO rfl ?_|(refine gM zM50 fun K1 hK1=>?_;simp only [go_sem,↓reduceIte,reduceCtorEq,nA,nB,nC,nD,nE,nF]<;>and_intros<;>(apply hK1;clear hK1 K1))))
  simp only [Tryz.results7,go_sem,↓reduceIte,reduceCtorEq,nA,nB,nC,nD,nE,nF]
  exact ⟨_,_,Weak.refl _,Hp.le.refl _,rfl⟩
end Go.Proofs.YtidkkmoiolffnaaGreatDoor
