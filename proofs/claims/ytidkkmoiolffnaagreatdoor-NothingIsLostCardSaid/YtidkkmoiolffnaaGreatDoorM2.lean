/- The sorts of a cache's items: insertionSortCmpFunc, pdqsortCmpFunc of at most 12, SortFunc; the comparison is a method's value. -/
import Derived.Test.YtidkkmoiolffnaaGreatDoorM1
import Derived.Test.YtidkkmoiolffnaaGreatDoorShelf
import Derived.Test.YtidkkmoiolffnaaGreatDoorAvOld
import Derived.Test.YtidkkmoiolffnaaGreatDoorAvUn
namespace Go.Proofs.YtidkkmoiolffnaaGreatDoor
open Go
set_option linter.unusedVariables false
set_option linter.unusedSimpArgs false
open Nat renaming reduceAdd→nA,reduceSub→nB,reduceMul→nC,reduceLT→nD,reduceLeDiff→nE,reduceEqDiff→nF,reduceMod→nG,reduceDiv→nH,reducePow→nI
abbrev zM20:Option Tmp→Nat:=mdL []
abbrev zM21:Option Tmp→Nat:=mdL [(8,2),(77,2)]
abbrev zM22:Option Tmp→Nat:=mdL [(32,2)]
abbrev zM23:Option Tmp→Nat:=mdL [(6,1)]
abbrev zM24:Option Tmp→Nat:=mdL [(3,2)]
abbrev zM25:Option Tmp→Nat:=mdL [(5,1),(14,2)]
abbrev zM26:Option Tmp→Nat:=mdL [(2,1),(6,1),(8,1),(12,2)]
abbrev zM27:Option Tmp→Nat:=mdL [(2,1)]
abbrev zM28:Option Tmp→Nat:=mdL [(4,1)]
abbrev zM29:Option Tmp→Nat:=mdL [(9,1)]
abbrev zK20:Nat:=274877939775
abbrev zK21:Nat:=35184372150525
attribute [go_sem] zM20 zM21 zM22 zM23 zM24 zM25 zM26 zM27 zM28 zM29 zK20 zK21
abbrev zPSE:List Nat:=[0,1,2,3,4,5,6,7,8,9,10,11,12,13]
abbrev zPSP:List (Nat × List Nat × List Nat):=[(14,[],[15,16])]
abbrev zPTE:List Nat:=[0,1,2,3,4,5,6,7,8,9,10,11,12,13,14]
abbrev zPTP:List (Nat × List Nat × List Nat):=[(15,[],[16]),(17,[],[])]
abbrev zPUE:List Nat:=[0,1,2,3,4,5,6,7,8,9,10,11,12]
abbrev zPUP:List (Nat × List Nat × List Nat):=[(13,[],[14,15,16])]
attribute [go_sem] zPSE zPSP zPTE zPTP zPUE zPUP
set_option maxRecDepth 100000
set_option maxHeartbeats 8000000
theorem getD_mid {α:Type} (A:List α) (x:α) (B:List α) (d:α):(A++x :: B).getD A.length d=x:=by
 rw [List.getD_eq_getElem?_getD,List.getElem?_append_right (Nat.le_refl _),Nat.sub_self];rfl
theorem set_mid {α:Type} (A:List α) (x y:α) (B:List α):(A++x :: B).set A.length y=A++y :: B:=by
 rw [List.set_append_right _ _ (Nat.le_refl _),Nat.sub_self];rfl
theorem g_insK {f:Nat} {caps:List AV} (cf:Nat→Nat→Int) (k:Nat) (xs:List Nat) (h:Hp) (hT:h.T k=some (.cont 1 (xs.map encR))) (hl:xs.length≤1000)
  (hc:∀ x∈xs,∀ y∈xs,∀ T',ACalls Tryz.prog f (caps++[encRV x,encRV y]) ⟨h.H,T'⟩ (fun r h'=>r=.v (.int .i64 (cf x y))∧h'=⟨h.H,T'⟩)) :
  ACalls Tryz.prog 372 [.arr 1 k xs.length,.v (.int .i64 0),.v (.int .i64 xs.length),.bfn f caps] h (fun r h'=>r=.tup []∧h'=⟨h.H,upd h.T k (some (.cont 1 ((sortI cf xs).map encR)))⟩):=by
 refine gE Tryz.func372 rfl (by kernel_rfl) 49 rfl fun c=>?_
 (repeat (first|refine gO rfl ?_|((refine gR fun K1 hK1=>?_;simp only [go_sem,↓reduceIte,reduceCtorEq,nA,nB,nC,nD,nE,nF]<;>and_intros<;>first|(apply hK1;clear hK1 K1)|(intros;(omega))))))
 refine awp_loopC (rl false [0,4,4,1,44]) 0 (fun g s=>∃ i:Nat,1≤i∧g+i=xs.length+1 ∧
  s=⟨((.arr 1 k xs.length) :: (.v (.int .i64 0)) :: (.v (.int .i64 xs.length)) :: (.bfn f caps) :: (jnk 4 ((.v (.int .i64 i)) :: (jnk 44 [])))),[],⟨h.H,upd h.T k (some (.cont 1 (((insS cf (xs.take i)).reverse++xs.drop i).map encR)))⟩⟩) xs.length
  ⟨1,by omega,by omega,?_⟩ ?_
 ·have e1:(insS cf (xs.take 1)).reverse++xs.drop 1=xs:=by cases xs<;>simp [insS,insR]
  have e2:upd h.T k (some (TO.cont 1 (xs.map encR)))=h.T:=by
   funext q
   by_cases e:q=k
   ·rw [e,upd_same,hT]
   ·rw [upd_other _ _ e]
  rw [e1,e2];rfl
 rintro g _ ⟨i,hi1,hi,rfl⟩
 (repeat (first|refine gO rfl ?_|((refine gR fun K1 hK1=>?_;simp only [go_sem,↓reduceIte,reduceCtorEq,nA,nB,nC,nD,nE,nF]<;>and_intros<;>(apply hK1;clear hK1 K1)))))
 refine awp_cond (t:=_) rfl (fun h1=>?_) (fun h1=>?_)
 ·simp only [decide_eq_true_eq] at h1
  have hil:i < xs.length:=by omega
  have hdr:xs.drop i=xs.getD i default :: xs.drop (i+1):=drop_at' xs i default hil
  have htk:xs.take (i+1)=xs.take i++[xs.getD i default]:=take_at' xs i default hil
  have hxm:xs.getD i default∈xs:=by
   rw [List.getD_eq_getElem?_getD,List.getElem?_eq_getElem hil];exact List.getElem_mem _
  have hpl:(insS cf (xs.take i)).length=i:=by rw [insS_len,List.length_take];omega
  have hpm:∀ z∈(insS cf (xs.take i)).reverse,z∈xs:=fun z hz=>List.mem_of_mem_take ((insS_perm cf (xs.take i)).mem_iff.1 (List.mem_reverse.1 hz))
  have hin:insS cf (xs.take (i+1))=insR cf (insS cf (xs.take i)) (xs.getD i default):=by rw [htk,insS_snoc]
  rw [hdr]
  generalize xs.getD i default=x at hxm hin ⊢
  generalize insS cf (xs.take i)=R at hpl hpm hin ⊢
  generalize hrs:xs.drop (i+1)=rest
  clear hdr htk
  (repeat (first|refine gO rfl ?_|((refine gR fun K1 hK1=>?_;simp only [go_sem,↓reduceIte,reduceCtorEq,nA,nB,nC,nD,nE,nF]<;>and_intros<;>(apply hK1;clear hK1 K1)))))
  refine awp_loopC (rl false [0,4,4,2,43]) 0 (fun g2 s=>∃ (A B:List Nat),g2=A.length∧insR cf R x=B.reverse++insR cf A.reverse x∧A.length+B.length=i∧(∀ z∈A,z∈xs) ∧
   s=⟨((.arr 1 k xs.length) :: (.v (.int .i64 0)) :: (.v (.int .i64 xs.length)) :: (.bfn f caps) :: (jnk 4 ((.v (.int .i64 i)) :: (.v (.int .i64 A.length)) :: (jnk 43 [])))),[],⟨h.H,upd h.T k (some (.cont 1 ((A++x :: (B++rest)).map encR)))⟩⟩) i
   ⟨R.reverse,[],by rw [List.length_reverse,hpl],by rw [List.reverse_reverse];rfl,by rw [List.length_reverse,hpl];rfl,hpm,by rw [List.length_reverse,hpl];rfl⟩ ?_
  rintro g2 _ ⟨A,B,rfl,hR,hAB,hA,rfl⟩
  have hTq:∀ X,upd h.T k (some (TO.cont 1 X)) k=some (.cont 1 X):=fun X=>upd_same _ _ _
  have hcl:((A++x :: (B++rest)).map encR).length=xs.length:=by
   have h9:=congrArg List.length hrs
   rw [List.length_drop] at h9
   simp;omega
  by_cases h0:A.length=0
  ·have hd0:decide (0 < (A.length:Int))=false:=by simp [h0]
   have hA0:A=[]:=List.eq_nil_of_length_eq_zero h0
   clear hc
   have gz:((A++x :: (B++rest)).map encR).getD 0 []=encR x:=by rw [hA0];rfl
   have i0:((A.length:Int)).toNat=0:=by rw [Int.toNat_natCast];exact h0
   have i1:((A.length:Int) - 1).toNat=0:=by omega
   (repeat (first|refine gO rfl ?_|((first|refine gR ?_|(with_reducible refine wM ?_ ?_)|((with_reducible refine xS ?_);refine uD 4 zM20 zPSE zPSP 53 rfl (by kernel_rfl) ?_))<;>((try with_reducible intro K1 hK1);simp only [go_sem,↓reduceIte,reduceCtorEq,nA,nB,nC,nD,nE,nF,hd0,hTq,hcl,i0,i1,gz,encR]<;>and_intros<;>first|(apply hK1;clear hK1 K1)|skip))))
   refine ⟨.v (.bool false),rfl,hK1 _ ?_⟩;clear hK1 K1
   (repeat ((refine gO rfl ?_)))
   refine awp_cond (t:=_) rfl (fun h9=>by cases h9) (fun _=>?_)
   (repeat (first|refine gO rfl ?_|((refine gR fun K1 hK1=>?_;simp only [go_sem,↓reduceIte,reduceCtorEq,nA,nB,nC,nD,nE,nF]<;>and_intros<;>first|(apply hK1;clear hK1 K1)|(intros;(omega))))))
   refine ⟨g - 1,by omega,i+1,by omega,by omega,?_⟩
   subst hA0
   have e3:(insS cf (xs.take (i+1))).reverse++xs.drop (i+1)=x :: (B++rest):=by rw [hin,hR,hrs];simp [insR]
   rw [e3];rfl
  ·obtain ⟨A',y,rfl⟩:∃ A' y,A=A'++[y]:=by
    rcases List.eq_nil_or_concat A with rfl|⟨A',y,e⟩
    ·exact absurd rfl h0
    ·exact ⟨A',y,by rw [e,List.concat_eq_append]⟩
   have hd0:decide (0 < ((A'++[y]).length:Int))=true:=by simp
   have hti:(((A'++[y]).length:Int) - 1).toNat=A'.length:=by simp
   have hy:y∈xs:=hA y (by simp)
   have gx:(((A'++[y])++x :: (B++rest)).map encR).getD (A'++[y]).length []=encR x:=by
    rw [List.map_append,List.map_cons]
    have:=getD_mid ((A'++[y]).map encR) (encR x) ((B++rest).map encR) []
    rwa [List.length_map] at this
   have gy:(((A'++[y])++x :: (B++rest)).map encR).getD A'.length []=encR y:=by
    rw [List.append_assoc,List.map_append,List.singleton_append,List.map_cons]
    have:=getD_mid (A'.map encR) (encR y) ((x :: (B++rest)).map encR) []
    rwa [List.length_map] at this
   have hcc:=fun T'=>hc x hxm y hy T'
   have hlt:(A'++[y]).length < xs.length:=by omega
   have hlt2:A'.length < xs.length:=by simp at hlt;omega
   generalize hct:((A'++[y])++x :: (B++rest)).map encR=ct at *
   (repeat (first|refine gO rfl ?_|((first|refine gR ?_|((with_reducible refine xS ?_);refine uD 4 zM20 zPSE zPSP 53 rfl (by kernel_rfl) ?_))<;>((try with_reducible intro K1 hK1);simp only [go_sem,↓reduceIte,reduceCtorEq,nA,nB,nC,nD,nE,nF,hd0,hTq,hcl,Int.toNat_natCast,hti,gx,gy,encR]<;>and_intros<;>first|(apply hK1;clear hK1 K1)|(intros;(omega))|skip))))
   rotate_left 1
   ·rintro ⟨⟩
   refine (hcc _).mono ?_;rintro _ hz ⟨rfl,hh⟩;refine ⟨rfl,hK1 _ ?_⟩;clear hK1 K1;rw [hh];clear hh hz
   (repeat (first|refine gO rfl ?_|(((with_reducible refine wM ?_ ?_))<;>((try with_reducible intro K1 hK1);simp only [go_sem,↓reduceIte,reduceCtorEq,nA,nB,nC,nD,nE,nF,hd0]<;>and_intros<;>(apply hK1;clear hK1 K1)))))
   refine awp_cond (t:=_) rfl (fun h9=>?_) (fun h9=>?_)
   ·have h8:cf x y < 0:=by simpa using h9
    have hs9:((A'++[y]).length:Int) - 1=A'.length:=by simp
    have e4:(ct.set (A'++[y]).length (encR y)).set A'.length (encR x)=(A'++x :: (y :: B++rest)).map encR:=by
     have h5:=set_mid ((A'++[y]).map encR) (encR x) (encR y) ((B++rest).map encR)
     have h6:=set_mid (A'.map encR) (encR y) (encR x) ((encR y) :: (B++rest).map encR)
     rw [List.length_map] at h5 h6
     rw [← hct,List.map_append,List.map_cons,h5,List.map_append,List.append_assoc]
     rw [show [y].map encR++encR y :: (B++rest).map encR=encR y :: (encR y :: (B++rest).map encR) from rfl,h6]
     simp
    have g3:(ct.set (A'++[y]).length (encR y)).getD A'.length []=encR y:=by
     have h5:=set_mid ((A'++[y]).map encR) (encR x) (encR y) ((B++rest).map encR)
     have h6:=getD_mid (A'.map encR) (encR y) ((encR y) :: (B++rest).map encR) []
     rw [List.length_map] at h5 h6
     rw [← hct,List.map_append,List.map_cons,h5,List.map_append,List.append_assoc]
     exact h6
    have hcl2:(ct.set (A'++[y]).length (encR y)).length=xs.length:=by rw [List.length_set,hcl]
    simp only [encR] at e4 g3 hcl2
    (repeat (first|refine gO rfl ?_|((first|refine gR ?_|(with_reducible refine wM ?_ ?_)|((with_reducible refine xR ?_);refine uE 6 zM20 zPTE zPTP 53 rfl (by kernel_rfl) ?_))<;>((try with_reducible intro K1 hK1);simp only [go_sem,↓reduceIte,reduceCtorEq,nA,nB,nC,nD,nE,nF,hTq,hcl,hcl2,Int.toNat_natCast,hti,gx,gy,encR,upd_upd]<;>and_intros<;>first|(apply hK1;clear hK1 K1)|(intros;(omega))))))
    refine ⟨A'.length,by simp,A',y :: B,rfl,?_,?_,fun z hz=>hA z (List.mem_append_left _ hz),?_⟩
    ·rw [hR,List.reverse_append,List.reverse_singleton,List.singleton_append,insR,if_pos h8];simp
    ·simp at hAB ⊢;omega
    ·simp only [g3,List.drop_succ_cons,List.drop_zero,e4,hs9]
     rfl
   ·have h8:¬ cf x y < 0:=by simpa using h9
    (repeat (first|refine gO rfl ?_|((refine gR fun K1 hK1=>?_;simp only [go_sem,↓reduceIte,reduceCtorEq,nA,nB,nC,nD,nE,nF]<;>and_intros<;>first|(apply hK1;clear hK1 K1)|(intros;(omega))))))
    refine ⟨g - 1,by omega,i+1,by omega,by omega,?_⟩
    have e3:(insS cf (xs.take (i+1))).reverse++xs.drop (i+1)=(A'++[y])++x :: (B++rest):=by rw [hin,hR,hrs];simp [insR,h8]
    rw [e3,hct];rfl
 ·simp only [decide_eq_false_iff_not] at h1
  have e1:(insS cf (xs.take i)).reverse++xs.drop i=sortI cf xs:=by
   rw [List.drop_eq_nil_of_le (by omega),List.take_of_length_le (by omega),List.append_nil];rfl
  rw [e1]
  (repeat ((refine gO rfl ?_)))
  simp only [Tryz.results372,go_sem,↓reduceIte,reduceCtorEq,nA,nB,nC,nD,nE,nF]
  exact ⟨_,_,Weak.refl _,Hp.le.refl _,rfl,rfl⟩
theorem g_pdqK {f:Nat} {caps:List AV} (cf:Nat→Nat→Int) (k:Nat) (xs:List Nat) (lim:Int) (h:Hp) (hT:h.T k=some (.cont 1 (xs.map encR))) (hl:xs.length≤12)
  (hc:∀ x∈xs,∀ y∈xs,∀ T',ACalls Tryz.prog f (caps++[encRV x,encRV y]) ⟨h.H,T'⟩ (fun r h'=>r=.v (.int .i64 (cf x y))∧h'=⟨h.H,T'⟩)) :
  ACalls Tryz.prog 344 [.arr 1 k xs.length,.v (.int .i64 0),.v (.int .i64 xs.length),.v (.int .i64 lim),.bfn f caps] h (fun r h'=>r=.tup []∧h'=⟨h.H,upd h.T k (some (.cont 1 ((sortI cf xs).map encR)))⟩):=by
 have hd0:decide (((xs.length:Int) - 0)≤12)=true:=by simp;omega
 have hi:=g_insK cf k xs h hT (by omega) hc
 clear hc
 refine gE Tryz.func344 rfl (by kernel_rfl) 143 rfl fun c=>?_
 (repeat (first|refine gO rfl ?_|((refine gR fun K1 hK1=>?_;simp only [go_sem,↓reduceIte,reduceCtorEq,nA,nB,nC,nD,nE,nF]<;>and_intros<;>(apply hK1;clear hK1 K1)))))
 refine awp_loopC (rl false [0,5,5,2,136]) 0 (fun g s=>s=⟨((.arr 1 k xs.length) :: (.v (.int .i64 0)) :: (.v (.int .i64 xs.length)) :: (.v (.int .i64 lim)) :: (.bfn f caps) :: (jnk 5 ((.v (.bool true)) :: (.v (.bool true)) :: (jnk 136 [])))),[],h⟩) 1 rfl ?_
 rintro g _ rfl
 (repeat (first|refine gO rfl ?_|((refine gR fun K1 hK1=>?_;simp only [go_sem,↓reduceIte,reduceCtorEq,nA,nB,nC,nD,nE,nF]<;>and_intros<;>first|(apply hK1;clear hK1 K1)|(intros;(omega))))))
 refine awp_cond (t:=_) rfl (fun _=>?_) (fun h9=>by rw [hd0] at h9;cases h9)
 (repeat (((refine gR fun K1 hK1=>?_;simp only [go_sem,↓reduceIte,reduceCtorEq,nA,nB,nC,nD,nE,nF]<;>and_intros))))
 refine hi.mono ?_
 rintro _ h2 ⟨rfl,rfl⟩
 refine hK1 _ ?_;clear hK1 K1
 (repeat ((refine gO rfl ?_)))
 simp only [Tryz.results344,go_sem,↓reduceIte,reduceCtorEq,nA,nB,nC,nD,nE,nF]
 exact ⟨_,_,Weak.refl _,Hp.le.refl _,rfl,rfl⟩
theorem g_bitsLen (n:Nat) (h:Hp) (hn:n≤1000000):ACalls Tryz.prog 158 [.v (.int .u64 n)] h (fun r h'=>∃ m:Int,r=.v (.int .i64 m)∧h'=h):=by
 refine acalls_mk (by kernel_rfl) fun G w vs hs hv ha=>?_
 have r0:=ha 0 (by simp)
 have hvs:vs=#[vs.getD 0 undef]:=by
  have hv1:vs.size=1:=hv
  apply Array.ext (by simpa using hv1)
  intro j hj hj'
  simp only [List.size_toArray,List.length_cons,List.length_nil] at hj'
  obtain rfl:j=0:=by omega
  simp [Array.getD,hv1]
 rw [hvs]
 generalize vs.getD 0 undef=v at r0
 simp only [List.getElem_cons_zero] at r0
 cases r0
 refine (Tryz.bits_Len n w (by omega) (by omega)).mono ?_
 rintro e w' ⟨rfl,rfl⟩
 exact ⟨_,rfl,_,h,G,⟨_,rfl,rfl⟩,GLe.refl _,Fr.refl _ _ _,hs,.v _ rfl⟩
theorem g_srtK {f:Nat} {caps:List AV} (cf:Nat→Nat→Int) (k:Nat) (xs:List Nat) (h:Hp) (hT:h.T k=some (.cont 1 (xs.map encR))) (hl:xs.length≤12)
  (hc:∀ x∈xs,∀ y∈xs,∀ T',ACalls Tryz.prog f (caps++[encRV x,encRV y]) ⟨h.H,T'⟩ (fun r h'=>r=.v (.int .i64 (cf x y))∧h'=⟨h.H,T'⟩)) :
  ACalls Tryz.prog 306 [.arr 1 k xs.length,.bfn f caps] h (fun r h'=>r=.tup []∧h'=⟨h.H,upd h.T k (some (.cont 1 ((sortI cf xs).map encR)))⟩):=by
 have hwr:IntKind.u64.wrap (xs.length:Int)=xs.length:=by simp [IntKind.wrap,IntKind.bits,IntKind.signed];omega
 have hp:=fun lim=>g_pdqK cf k xs lim h hT hl hc
 have hbl:=g_bitsLen xs.length h (by omega)
 clear hc
 refine gE Tryz.func306 rfl (by kernel_rfl) 12 rfl fun c=>?_
 (repeat (first|refine gO rfl ?_|(refine gR fun K1 hK1=>?_;simp only [go_sem,↓reduceIte,reduceCtorEq,nA,nB,nC,nD,nE,nF,hwr]<;>and_intros<;>first|(apply hK1;clear hK1 K1)|skip)))
 refine hbl.mono ?_
 rintro _ h2 ⟨n,rfl,rfl⟩
 refine hK1 _ ?_;clear hK1 K1
 (repeat ((refine gR fun K1 hK1=>?_;simp only [go_sem,↓reduceIte,reduceCtorEq,nA,nB,nC,nD,nE,nF]<;>and_intros)))
 refine (hp _).mono ?_
 rintro _ h3 ⟨rfl,rfl⟩
 refine hK1 _ ?_;clear hK1 K1
 (repeat ((refine gO rfl ?_)))
 simp only [Tryz.results306,go_sem,↓reduceIte,reduceCtorEq,nA,nB,nC,nD,nE,nF]
 exact ⟨_,_,Weak.refl _,Hp.le.refl _,rfl,rfl⟩
theorem g_order {K:Nat→Kp} {ci k:Nat} {room rule now:Int} {ps:List Nat} {h:Hp} (hC:h.H ci=some (.cells (encCa room rule now k ps.length))) (hT:h.T k=some (.cont 1 (ps.map encR))) (hl:ps.length≤12) (hK:CacheH h K ps) :
  ACalls Tryz.prog 243 [.ptr ci 0] h (fun r h'=>∃ q,r=.arr 1 q (orderF rule K ps).length∧h'.H=h.H∧h'.T q=some (.cont 1 ((orderF rule K ps).map encR))∧h.T q=none∧∀ t,h.T t≠none→h'.T t=h.T t):=by
 have hcl:=g_cloneK k ps h hT (by omega)
 refine gE Tryz.func243 rfl (by kernel_rfl) 14 rfl fun c=>?_
 (repeat (first|refine gO rfl ?_|(refine gR fun K1 hK1=>?_;simp only [go_sem,↓reduceIte,reduceCtorEq,nA,nB,nC,nD,nE,nF,hC,encCa]<;>and_intros<;>first|(apply hK1;clear hK1 K1)|skip)))
 refine hcl.mono ?_
 rintro _ _ ⟨q,rfl,hq,rfl⟩
 refine hK1 _ ?_;clear hK1 K1
 have hqk:k≠q:=by rintro rfl;rw [hT] at hq;cases hq
 have hde:=g_delK (caps:=[]) (fun p=>(K p).2.2.1) q ps ⟨h.H,upd h.T q (some (.cont 1 (ps.map encR)))⟩ (upd_same _ _ _) (by omega) (fun p hp T'=>g_order1 (h:=⟨h.H,T'⟩) (hK p hp))
 (repeat ((refine gR fun K1 hK1=>?_;simp only [go_sem,↓reduceIte,reduceCtorEq,nA,nB,nC,nD,nE,nF]<;>and_intros)))
 refine hde.mono ?_
 rintro _ ⟨H2,T2⟩ ⟨q1,rfl,hH,hT1,hoth⟩
 simp only at hH hT1
 subst hH
 refine hK1 _ ?_;clear hK1 K1
 have hf1:(ps.filter fun p=>!(K p).2.2.1).length≤12:=Nat.le_trans (List.length_filter_le _ _) hl
 have hsr:=g_srtK (caps:=[.ptr ci 0]) (fun p q=>cmpK rule (K p) (K q)) q1 (ps.filter fun p=>!(K p).2.2.1) ⟨h.H,T2⟩ hT1 hf1 (fun a ha b hb T'=>g_compK (h:=⟨h.H,T'⟩) hC (hK a (List.mem_filter.1 ha).1) (hK b (List.mem_filter.1 hb).1))
 (repeat (first|refine gO rfl ?_|(refine gR fun K1 hK1=>?_;simp only [go_sem,↓reduceIte,reduceCtorEq,nA,nB,nC,nD,nE,nF]<;>and_intros<;>first|(apply hK1;clear hK1 K1)|(intros;(decide))|skip)))
 refine hsr.mono ?_
 rintro _ _ ⟨rfl,rfl⟩
 refine hK1 _ ?_;clear hK1 K1
 (repeat (first|refine gO rfl ?_|(refine gR fun K1 hK1=>?_;simp only [go_sem,↓reduceIte,reduceCtorEq,nA,nB,nC,nD,nE,nF]<;>and_intros<;>(apply hK1;clear hK1 K1))))
 simp only [Tryz.results243,go_sem,↓reduceIte,reduceCtorEq,nA,nB,nC,nD,nE,nF]
 refine ⟨_,_,Weak.refl _,Hp.le.refl _,q1,?_,rfl,upd_same _ _ _,?_,?_⟩
 ·rw [orderF,sortI_len]
 ·by_cases e:q1=q
  ·rw [e];exact hq
  ·cases e9:h.T q1 with
   | none=>rfl
   | some o =>
    have:=(hoth q1 e (by simp only [upd_other _ _ e,e9];simp)).1
    exact absurd rfl this
 ·intro t ht
  have htq:t≠q:=by rintro rfl;exact ht hq
  have h9:=hoth t htq (by simp only [upd_other _ _ htq];exact ht)
  show upd T2 q1 _ t=_
  rw [upd_other _ _ h9.1]
  refine h9.2.trans ?_
  exact upd_other _ _ htq
theorem g_going {K:Nat→Kp} {ci k:Nat} {room rule now bytes:Int} {item:ByteArray} {ps:List Nat} {h:Hp} (hC:h.H ci=some (.cells (encCa room rule now k ps.length))) (hT:h.T k=some (.cont 1 (ps.map encR))) (hl:ps.length≤12) (hK:CacheH h K ps)
  (hB:∀ p∈ps,0≤(K p).2.1∧(K p).2.1≤1000000000000) (hr:0≤room∧room≤1000000000000) (hb:0≤bytes∧bytes≤1000000000000) :
  ACalls Tryz.prog 190 [.ptr ci 0,.v (.string item),.v (.int .i64 bytes)] h (fun r h'=>∃ kt,r=.tup [.row 1 ((goingF item bytes room rule K ps).1.map encR) (some kt),.v (.bool (decide ((goingF item bytes room rule K ps).2≤0)))]∧h'.H=h.H∧∀ t,h.T t≠none→h'.T t=h.T t):=by
 have hml:(ps.map encR).length=ps.length:=List.length_map _
 refine gE Tryz.func190 rfl (by kernel_rfl) 68 rfl fun c=>?_
 (repeat (first|refine gO rfl ?_|(refine gR fun K1 hK1=>?_;simp only [go_sem,↓reduceIte,reduceCtorEq,nA,nB,nC,nD,nE,nF,hC,encCa]<;>and_intros<;>first|(apply hK1;clear hK1 K1)|(intros;(omega)))))
 refine awp_loopC (rl false [0,3,5,1,14,3,45]) 0 (fun g s=>∃ (j:Nat) (o:Int),g+j=ps.length∧overF item K (ps.drop j) o=overF item K ps (bytes - room)∧-1000000000000≤o∧o≤1000000000000+j * 1000000000000 ∧
  s=⟨((.ptr ci 0) :: (.v (.string item)) :: (.v (.int .i64 bytes)) :: (jnk 5 ((.v (.int .i64 o)) :: (jnk 14 ((.arr 1 k ps.length) :: (.v (.int .i64 ps.length)) :: (.v (.int .i64 j)) :: (jnk 45 [])))))),[],h⟩) ps.length ⟨0,bytes - room,by omega,by rw [List.drop_zero],by omega,by omega,rfl⟩ ?_
 rintro g _ ⟨j,o,hj,ho,ho1,ho2,rfl⟩
 (repeat (first|refine gO rfl ?_|(refine gR fun K1 hK1=>?_;simp only [go_sem,↓reduceIte,reduceCtorEq,nA,nB,nC,nD,nE,nF]<;>and_intros<;>(apply hK1;clear hK1 K1))))
 refine awp_cond (t:=_) rfl (fun h1=>?_) (fun h1=>?_)
 ·simp only [decide_eq_true_eq] at h1
  have hjl:j < ps.length:=by omega
  have gx:(ps.map encR).getD j []=encR (ps.getD j default):=getD_enc encR ps j default hjl
  have hdj:=drop_at' ps j default hjl
  have hpm:ps.getD j default∈ps:=by rw [List.getD_eq_getElem?_getD,List.getElem?_eq_getElem hjl];exact List.getElem_mem _
  obtain ⟨p,hp⟩:∃ p,ps.getD j default=p:=⟨_,rfl⟩
  rw [hp] at gx hdj hpm
  have hhp:=hK p hpm
  have hbp:=hB p hpm
  obtain ⟨o9,ho9⟩:∃ o9,overF item K ps (bytes - room)=o9:=⟨_,rfl⟩
  rw [ho9] at ho ⊢
  rw [hdj,overF] at ho
  generalize K p=x at *
  obtain ⟨ke,by1,pi,ca,la,ma⟩:=x
  simp only at ho hbp
  (repeat (first|refine gO rfl ?_|(refine gR fun K1 hK1=>?_;simp only [go_sem,↓reduceIte,reduceCtorEq,nA,nB,nC,nD,nE,nF,hT,hml,Int.toNat_natCast,gx,encR,hhp,encKp]<;>and_intros<;>first|(apply hK1;clear hK1 K1)|(intros;(omega)))))
  by_cases e:ke=item
  ·refine awp_cond (t:=_) rfl (fun h9=>absurd h9 (by rw [e];simp [ba_beq])) (fun _=>?_)
   rw [if_pos e] at ho
   (repeat (first|refine gO rfl ?_|(refine gR fun K1 hK1=>?_;simp only [go_sem,↓reduceIte,reduceCtorEq,nA,nB,nC,nD,nE,nF]<;>and_intros<;>first|(apply hK1;clear hK1 K1)|(intros;(omega)))))
   exact ⟨g - 1,by omega,j+1,o,by omega,ho,ho1,by omega,rfl⟩
  ·refine awp_cond (t:=_) rfl (fun _=>?_) (fun h9=>absurd (by simpa [ba_beq] using h9) e)
   rw [if_neg e] at ho
   (repeat (first|refine gO rfl ?_|(refine gR fun K1 hK1=>?_;simp only [go_sem,↓reduceIte,reduceCtorEq,nA,nB,nC,nD,nE,nF,hhp,encKp]<;>and_intros<;>first|(apply hK1;clear hK1 K1)|(intros;(omega)))))
   exact ⟨g - 1,by omega,j+1,o+by1,by omega,ho,by omega,by omega,rfl⟩
 ·simp only [decide_eq_false_iff_not] at h1
  have hjl:j=ps.length:=by omega
  subst hjl
  rw [List.drop_length] at ho
  simp only [overF] at ho
  (repeat refine gO rfl ?_)
  refine awp_seq ?_
  refine awp_AL ?_
  refine AL.cons rfl (Quiet.aop (q_move (.inr rfl)) ?_)
  refine AL.nil ?_
  refine awp_own 11 1 rfl ⟨rfl,rfl⟩ (fun kt hkt=>?_)
  refine awp_cut (rl false [0,3,5,1,2,1,59]) 0 (?_:Awp _ _ _ _ ⟨((.ptr ci 0) :: (.v (.string item)) :: (.v (.int .i64 bytes)) :: (jnk 5 ((.v (.int .i64 o)) :: AV.junk :: AV.junk :: ((.row 1 [] (some kt)) :: (jnk 59 []))))),[],⟨h.H,upd h.T kt (some (.tail 0))⟩⟩)
  have hkt':h.T kt=none:=hkt
  have hkk:k≠kt:=by rintro rfl;rw [hT] at hkt';cases hkt'
  have hor:=g_order (K:=K) (rule:=rule) (h:=⟨h.H,upd h.T kt (some (.tail 0))⟩) hC ((upd_other _ _ hkk).trans hT) hl hK
  (repeat (first|refine gO rfl ?_|(refine gR fun K1 hK1=>?_;simp only [go_sem,↓reduceIte,reduceCtorEq,nA,nB,nC,nD,nE,nF]<;>and_intros)))
  refine hor.mono ?_
  rintro _ ⟨H2,T2⟩ ⟨q,rfl,hH,hT2,hq,hoth⟩
  simp only at hH hT2
  subst hH
  refine hK1 _ ?_;clear hK1 K1 hor
  have hqkt:q≠kt:=by
   intro e
   have hq':upd h.T kt (some (.tail 0)) q=none:=hq
   rw [e,upd_same] at hq';cases hq'
  have hT2k:T2 kt=some (.tail 0):=by
   have:=hoth kt (by show upd h.T kt _ kt≠none;rw [upd_same];simp)
   exact this.trans (upd_same _ _ _)
  have hold:∀ t,h.T t≠none→T2 t=h.T t∧t≠kt:=fun t ht=>by
   have htk:t≠kt:=by rintro rfl;exact ht hkt'
   have:=hoth t (by show upd h.T kt _ t≠none;rw [upd_other _ _ htk];exact ht)
   exact ⟨this.trans (upd_other _ _ htk),htk⟩
  have hom:∀ p∈orderF rule K ps,p∈ps:=fun p hp=>orderF_mem hp
  have hol:=orderF_len rule K ps
  unfold goingF
  rw [← ho]
  generalize orderF rule K ps=ord at *
  generalize hG:goF item K ord o=G
  have hol2:(ord.map encR).length=ord.length:=List.length_map _
  clear hoth
  (repeat (first|refine gO rfl ?_|(refine gR fun K1 hK1=>?_;simp only [go_sem,↓reduceIte,reduceCtorEq,nA,nB,nC,nD,nE,nF]<;>and_intros<;>(apply hK1;clear hK1 K1))))
  refine awp_loopC (rl false [0,3,5,1,2,1,31,3,25]) 0 (fun g s=>∃ (j:Nat) (o:Int) (acc:List Nat),g+j=ord.length∧acc++(goF item K (ord.drop j) o).1=G.1∧(goF item K (ord.drop j) o).2=G.2∧acc.length≤j∧-1000000000000≤o∧o≤100000000000000 ∧
   s=⟨((.ptr ci 0) :: (.v (.string item)) :: (.v (.int .i64 bytes)) :: (jnk 5 ((.v (.int .i64 o)) :: AV.junk :: AV.junk :: ((.row 1 (acc.map encR) (some kt)) :: (jnk 31 ((.arr 1 q ord.length) :: (.v (.int .i64 ord.length)) :: (.v (.int .i64 j)) :: (jnk 25 []))))))),[],⟨h.H,upd T2 kt (some (.tail acc.length))⟩⟩) ord.length ⟨0,o,[],by omega,by rw [List.drop_zero,hG];rfl,by rw [List.drop_zero,hG],Nat.le_refl _,ho1,by omega,?_⟩ ?_
  ·have e2:upd T2 kt (some (TO.tail ([]:List Nat).length))=T2:=by
    funext t
    by_cases e:t=kt
    ·rw [e,upd_same,hT2k];rfl
    ·rw [upd_other _ _ e]
   rw [e2];rfl
  rintro g _ ⟨j,o2,acc,hj,hg1,hg2,hac,hb1,hb2,rfl⟩
  (repeat (first|refine gO rfl ?_|(refine gR fun K1 hK1=>?_;simp only [go_sem,↓reduceIte,reduceCtorEq,nA,nB,nC,nD,nE,nF]<;>and_intros<;>(apply hK1;clear hK1 K1))))
  refine awp_cond (t:=_) rfl (fun h1=>?_) (fun h1=>?_)
  ·simp only [decide_eq_true_eq] at h1
   have hjl:j < ord.length:=by omega
   have gx:(ord.map encR).getD j []=encR (ord.getD j default):=getD_enc encR ord j default hjl
   have hdj:=drop_at' ord j default hjl
   have hpm:ord.getD j default∈ord:=by rw [List.getD_eq_getElem?_getD,List.getElem?_eq_getElem hjl];exact List.getElem_mem _
   obtain ⟨p,hp⟩:∃ p,ord.getD j default=p:=⟨_,rfl⟩
   rw [hp] at gx hdj hpm
   have hhp:=hK p (hom p hpm)
   have hbp:=hB p (hom p hpm)
   have htq:upd T2 kt (some (TO.tail acc.length)) q=some (.cont 1 (ord.map encR)):=(upd_other _ _ hqkt).trans hT2
   have htk2:upd T2 kt (some (TO.tail acc.length)) kt=some (.tail acc.length):=upd_same _ _ _
   rw [hdj,goF] at hg1 hg2
   generalize K p=x at *
   obtain ⟨ke,by1,pi,ca,la,ma⟩:=x
   simp only at hg1 hg2 hbp
   (repeat (first|refine gO rfl ?_|(refine gR fun K1 hK1=>?_;simp only [go_sem,↓reduceIte,reduceCtorEq,nA,nB,nC,nD,nE,nF,htq,hol2,Int.toNat_natCast,gx,encR]<;>and_intros<;>first|(apply hK1;clear hK1 K1)|(intros;(omega)))))
   refine awp_cond (t:=_) rfl (fun h2=>?_) (fun h2=>?_)
   ·simp only [decide_eq_true_eq] at h2
    rw [if_pos h2] at hg1 hg2
    simp only at hg1 hg2
    (repeat (first|refine gO rfl ?_|(refine gR fun K1 hK1=>?_;simp only [go_sem,↓reduceIte,reduceCtorEq,nA,nB,nC,nD,nE,nF]<;>and_intros<;>(apply hK1;clear hK1 K1))))
    simp only [Tryz.results190,go_sem,↓reduceIte,reduceCtorEq,nA,nB,nC,nD,nE,nF]
    refine ⟨_,_,Weak.refl _,Hp.le.refl _,kt,by rw [← hg1,← hg2,List.append_nil],rfl,fun t ht=>?_⟩
    exact (upd_other _ _ (hold t ht).2).trans (hold t ht).1
   ·simp only [decide_eq_false_iff_not] at h2
    rw [if_neg h2] at hg1 hg2
    (repeat (first|refine gO rfl ?_|(refine gR fun K1 hK1=>?_;simp only [go_sem,↓reduceIte,reduceCtorEq,nA,nB,nC,nD,nE,nF,hhp,encKp]<;>and_intros<;>(apply hK1;clear hK1 K1))))
    by_cases e:ke=item
    ·refine awp_cond (t:=_) rfl (fun h9=>absurd h9 (by rw [e];simp [ba_beq])) (fun _=>?_)
     rw [if_pos e] at hg1 hg2
     (repeat (first|refine gO rfl ?_|(refine gR fun K1 hK1=>?_;simp only [go_sem,↓reduceIte,reduceCtorEq,nA,nB,nC,nD,nE,nF]<;>and_intros<;>first|(apply hK1;clear hK1 K1)|(intros;(omega)))))
     exact ⟨g - 1,by omega,j+1,o2,acc,by omega,hg1,hg2,by omega,hb1,hb2,rfl⟩
    ·refine awp_cond (t:=_) rfl (fun _=>?_) (fun h9=>absurd (by simpa [ba_beq] using h9) e)
     rw [if_neg e] at hg1 hg2
     (repeat (first|refine gO rfl ?_|(refine gR fun K1 hK1=>?_;simp only [go_sem,↓reduceIte,reduceCtorEq,nA,nB,nC,nD,nE,nF,hhp,encKp,htk2,List.length_map]<;>and_intros<;>first|(apply hK1;clear hK1 K1)|(intros;first|omega|decide))))
     refine ⟨g - 1,by omega,j+1,o2 - by1,acc++[p],by omega,by rw [List.append_assoc];exact hg1,hg2,by rw [List.length_append,List.length_singleton];omega,by omega,by omega,?_⟩
     rw [List.map_append,List.length_append]
     rfl
  ·simp only [decide_eq_false_iff_not] at h1
   have hjl:j=ord.length:=by omega
   subst hjl
   rw [List.drop_length,goF] at hg1 hg2
   simp only at hg1 hg2
   (repeat (first|refine gO rfl ?_|(refine gR fun K1 hK1=>?_;simp only [go_sem,↓reduceIte,reduceCtorEq,nA,nB,nC,nD,nE,nF]<;>and_intros<;>(apply hK1;clear hK1 K1))))
   simp only [Tryz.results190,go_sem,↓reduceIte,reduceCtorEq,nA,nB,nC,nD,nE,nF]
   refine ⟨_,_,Weak.refl _,Hp.le.refl _,kt,by rw [← hg1,← hg2,List.append_nil],rfl,fun t ht=>?_⟩
   exact (upd_other _ _ (hold t ht).2).trans (hold t ht).1
abbrev zPVE:List Nat:=[0,1,2,3,4,5,6,7,8,9,10,11,12,13]
abbrev zPVP:List (Nat × List Nat × List Nat):=[]
attribute [go_sem] zPVE zPVP
def encNm (x:Kp):List AV:=[.v (.string x.1)]
def PutR (room rule now bytes:Int) (item:ByteArray) (K:Nat→Kp) (ps:List Nat) (ci k:Nat) (h:Hp) (r:AV) (h':Hp):Prop :=
 match putL room rule now (ps.map K) item bytes with
 | none=>r=.tup [.v (.slice none 0 0),.v (.int .i64 12)]∧h'.H=h.H∧∀ t,h.T t≠none→h'.T t=h.T t
 | some (L',g)=>∃ (K':Nat→Kp) (ps':List Nat) (k' kt:Nat),r=.tup [.row 1 (g.map encNm) (some kt),.v (.int .i64 0)]∧ps'.map K'=L'∧CacheH h' K' ps'∧h'.H ci=some (.cells (encCa room rule (now+1) k' ps'.length)) ∧
   h'.T k'=some (.cont 1 (ps'.map encR))∧ci ∉ ps'∧(∀ q,h.H q≠none→q≠ci→q ∉ ps→h'.H q=h.H q)∧∀ t,h.T t≠none→t≠k→h'.T t=h.T t
theorem goingF_mem {item:ByteArray} {bytes room rule:Int} {K:Nat→Kp} {ps:List Nat} {p:Nat} (h:p∈(goingF item bytes room rule K ps).1):p∈ps:=orderF_mem (goF_mem h)
theorem goF_not {item:ByteArray} {K:Nat→Kp}:∀ {ps:List Nat} {o:Int} {p:Nat},p∈(goF item K ps o).1→(K p).1≠item
 | [],_,_,h=>by simp [goF] at h
 | q :: ps,o,p,h=>by
  unfold goF at h
  split at h
  ·simp at h
  ·split at h
   ·exact goF_not h
   ·rename_i e
    rcases List.mem_cons.1 h with rfl|h
    ·exact e
    ·exact goF_not h
theorem findF_cases (item:ByteArray) (K:Nat→Kp) (ps:List Nat):(hasL item (ps.map K)=false∧findF item K ps=nilP)∨∃ p∈ps,(K p).1=item∧hasL item (ps.map K)=true∧findF item K ps=.ptr p 0:=by
 unfold findF
 cases e:ps.find? (fun p=>(K p).1 == item) with
 | none =>
  refine .inl ⟨?_,rfl⟩
  cases hh:hasL item (ps.map K) with
  | false=>rfl
  | true =>
   obtain ⟨x,hx,e2⟩:=hasL_iff.1 hh
   obtain ⟨p,hp,rfl⟩:=List.mem_map.1 hx
   have:=List.find?_eq_none.1 e p hp
   rw [ba_beq] at this
   simp [e2] at this
 | some p =>
  have h1:=List.find?_some e
  have h2:=List.mem_of_find?_eq_some e
  rw [ba_beq] at h1
  have h3:(K p).1=item:=by simpa using h1
  exact .inr ⟨p,h2,h3,hasL_iff.2 ⟨K p,List.mem_map_of_mem h2,h3⟩,rfl⟩
theorem g_put {K:Nat→Kp} {ci k:Nat} {room rule now bytes:Int} {item:ByteArray} {ps:List Nat} {h:Hp} (hC:h.H ci=some (.cells (encCa room rule now k ps.length))) (hT:h.T k=some (.cont 1 (ps.map encR))) (hl:ps.length≤11) (hK:CacheH h K ps)
  (hci:ci ∉ ps) (hone:KeysOne (ps.map K)) (hKey:∀ h,ACalls Tryz.prog 151 [.v (.string item)] h (fun r h'=>r=.v (.bool true)∧h'=h))
  (hB:∀ p∈ps,0≤(K p).2.1∧(K p).2.1≤1000000000000) (hM:∀ p∈ps,0≤(K p).2.2.2.2.2∧(K p).2.2.2.2.2≤1000000000) (hr:0≤room∧room≤1000000000000) (hb:1≤bytes∧bytes≤1000000000000) (hnow:0≤now∧now≤1000000000) :
  ACalls Tryz.prog 135 [.ptr ci 0,.v (.string item),.v (.int .i64 bytes)] h (PutR room rule now bytes item K ps ci k h):=by
 have hgo:=g_going (item:=item) (bytes:=bytes) hC hT (by omega) hK hB hr (by omega)
 have hgm:=goingF_map item bytes room rule K ps
 have hgmem:∀ p∈(goingF item bytes room rule K ps).1,p∈ps:=fun p hp=>goingF_mem hp
 have hgnot:∀ p∈(goingF item bytes room rule K ps).1,(K p).1≠item:=fun p hp=>goF_not hp
 have hglen:(goingF item bytes room rule K ps).1.length≤ps.length:=Nat.le_trans (goF_len item K _ _) (orderF_len rule K ps)
 have hP:putL room rule now (ps.map K) item bytes=putL room rule now (ps.map K) item bytes:=rfl
 conv at hP=>rhs;unfold putL;rw [← hgm]
 simp only at hP
 generalize goingF item bytes room rule K ps=go at *
 obtain ⟨gone,over⟩:=go
 simp only at hP hgmem hgnot hglen hgo
 clear hgm
 have hOut:=a_outside bytes 1 1000000000000
 have hOutE:(decide (bytes < 1) || decide (1000000000000 < bytes))=false:=by simp;omega
 refine gE Tryz.func135 rfl (by kernel_rfl) 93 rfl fun c=>?_
 (repeat (first|refine gO rfl ?_|((refine gM zM21 fun K1 hK1=>?_;simp only [go_sem,↓reduceIte,reduceCtorEq,nA,nB,nC,nD,nE,nF]<;>and_intros<;>first|(apply hK1;clear hK1 K1)|skip))))
 refine (hKey _).mono ?_;rintro _ hz ⟨rfl,hh⟩;apply hK1;clear hK1 K1;rw [hh];clear hh hz
 (repeat (first|refine gO rfl ?_|((refine gM zM21 fun K1 hK1=>?_;simp only [go_sem,↓reduceIte,reduceCtorEq,nA,nB,nC,nD,nE,nF]<;>and_intros<;>(apply hK1;clear hK1 K1)))))
 refine awp_cond (t:=_) rfl (fun h9=>by cases h9) (fun _=>?_)
 (repeat (first|refine gO rfl ?_|((refine gM zM21 fun K1 hK1=>?_;simp only [go_sem,↓reduceIte,reduceCtorEq,nA,nB,nC,nD,nE,nF]<;>and_intros))))
 refine (hOut _).mono ?_;rintro _ hz ⟨rfl,hh⟩;apply hK1;clear hK1 K1;rw [hh];clear hh hz
 rw [hOutE]
 clear hKey hOut hOutE
 (repeat ((refine gO rfl ?_)))
 refine awp_cond (t:=_) rfl (fun h9=>by cases h9) (fun _=>?_)
 (repeat (first|refine gO rfl ?_|((refine gM zM21 fun K1 hK1=>?_;simp only [go_sem,↓reduceIte,reduceCtorEq,nA,nB,nC,nD,nE,nF]<;>and_intros))))
 refine hgo.mono ?_
 rintro _ ⟨H2,T2⟩ ⟨kg,rfl,hH,hold⟩
 simp only at hH hold
 subst hH
 refine hK1 _ ?_;clear hK1 K1 hgo
 (repeat (((refine gM zM21 fun K1 hK1=>?_;simp only [go_sem,↓reduceIte,reduceCtorEq,nA,nB,nC,nD,nE,nF]<;>and_intros))))
 intro i hi
 replace hi:h.H i=none:=hi
 refine hK1 _ ?_;clear hK1 K1
 (repeat (first|refine gO rfl ?_|((refine gM zM21 fun K1 hK1=>?_;simp only [go_sem,↓reduceIte,reduceCtorEq,nA,nB,nC,nD,nE,nF,upd_same,upd_upd]<;>and_intros<;>(apply hK1;clear hK1 K1)))))
 by_cases ho:over≤0
 case neg =>
  have hof:decide (over≤0)=false:=by simpa using ho
  rw [if_neg ho] at hP
  refine awp_cond (t:=!decide (over≤0)) rfl (fun _=>?_) (fun h9=>by rw [hof] at h9;cases h9)
  (repeat (first|refine gO rfl ?_|((refine gM zM21 fun K1 hK1=>?_;simp only [go_sem,↓reduceIte,reduceCtorEq,nA,nB,nC,nD,nE,nF]<;>and_intros<;>(apply hK1;clear hK1 K1)))))
  simp only [Tryz.results135,go_sem,↓reduceIte,reduceCtorEq,nA,nB,nC,nD,nE,nF]
  refine ⟨_,⟨h.H,T2⟩,Weak.refl _,⟨fun q=>?_,fun _=>.inr rfl⟩,?_⟩
  ·by_cases e:q=i
   ·rw [e];exact .inl hi
   ·exact .inr (upd_other _ _ e).symm
  ·unfold PutR
   rw [hP]
   exact ⟨rfl,rfl,hold⟩
 have hot:decide (over≤0)=true:=by simpa using ho
 rw [if_pos ho] at hP
 refine awp_cond (t:=!decide (over≤0)) rfl (fun h9=>by rw [hot] at h9;cases h9) (fun _=>?_)
 have hcii:ci≠i:=by rintro rfl;rw [hC] at hi;cases hi
 have hpi:∀ p∈ps,p≠i:=fun p hp=>by rintro rfl;have:=hK p hp;rw [hi] at this;cases this
 have hne:h.T k≠none:=by rw [hT];simp
 have hT2:T2 k=some (.cont 1 (ps.map encR)):=(hold k hne).trans hT
 have hC3:upd h.H i (some (.cells [.row 1 (gone.map encR) (some kg)])) ci=some (.cells (encCa room rule now k ps.length)):=(upd_other _ _ hcii).trans hC
 have hI3:upd h.H i (some (.cells [.row 1 (gone.map encR) (some kg)])) i=some (.cells [.row 1 (gone.map encR) (some kg)]):=upd_same _ _ _
 have hK3:CacheH ⟨upd h.H i (some (.cells [.row 1 (gone.map encR) (some kg)])),T2⟩ K ps:=fun p hp=>(upd_other _ _ (hpi p hp)).trans (hK p hp)
 have hfi:=g_find (item:=item) K ci k room rule now ps ⟨upd h.H i (some (.cells [.row 1 (gone.map encR) (some kg)])),T2⟩ hC3 hT2 (by omega) hK3
 have hfc:=findF_cases item K ps
 have hus:uside (findF item K ps):=by rcases hfc with ⟨_,e⟩|⟨_,_,_,_,e⟩<;>rw [e]<;>trivial
 have hun:unw (findF item K ps)=findF item K ps:=by rcases hfc with ⟨_,e⟩|⟨_,_,_,_,e⟩<;>rw [e]<;>rfl
 have hcl:cutLoc 0 (findF item K ps)=findF item K ps:=by rcases hfc with ⟨_,e⟩|⟨_,_,_,_,e⟩<;>rw [e]<;>rfl
 generalize findF item K ps=fk at *
 unfold uside at hus
 unfold unw at hun
 (repeat (first|refine gO rfl ?_|((refine gM zM21 fun K1 hK1=>?_;simp only [go_sem,↓reduceIte,reduceCtorEq,nA,nB,nC,nD,nE,nF]<;>and_intros))))
 refine hfi.mono ?_
 rintro fk hz ⟨rfl,hh⟩;apply hK1;clear hK1 K1;rw [hh];clear hh hz
 clear hfi
 (repeat (first|refine gQ rfl ?_|((refine gM zM21 fun K1 hK1=>?_;simp only [go_sem,↓reduceIte,reduceCtorEq,nA,nB,nC,nD,nE,nF,hus,hun]<;>and_intros<;>(apply hK1;clear hK1 K1)))))
 refine awp_seq ?_
 have hlen2:-1000000000≤(ps.length:Int) - (gone.length:Int)+1∧(ps.length:Int) - (gone.length:Int)+1≤500:=by omega
 have hbig:decide ((500:Int) < (ps.length:Int) - (gone.length:Int)+1)=false:=by simp;omega
 have hml:(gone.map encR).length=gone.length:=List.length_map _
 refine awp_join (rl false [0,3,5,1,1,1,85]) 0 (fun s=>s=⟨((.ptr ci 0) :: (.v (.string item)) :: (.v (.int .i64 bytes)) :: (jnk 5 ((.ptr i 0) :: AV.junk :: ((fk) :: (jnk 85 []))))),[],⟨upd h.H i (some (.cells [.row 1 (gone.map encR) (some kg)])),T2⟩⟩) ?_ ?_
 ·rcases hfc with ⟨_,rfl⟩|⟨p,hp,hpk,hhas,rfl⟩
  ·unfold nilP
   (repeat (first|refine gO rfl ?_|((((with_reducible refine xS ?_);refine uD 9 zM21 zPVE zPVP 96 rfl (by kernel_rfl) ?_))<;>((try with_reducible intro K1 hK1);simp only [go_sem,↓reduceIte,reduceCtorEq,nA,nB,nC,nD,nE,nF,hC3,hI3,encCa,hml]<;>and_intros<;>first|(apply hK1;clear hK1 K1)|(intros;(omega))))))
   refine awp_cond (t:=_) rfl (fun h9=>by rw [hbig] at h9;cases h9) (fun _=>?_)
   (repeat ((refine gO rfl ?_)))
   rfl
  ·(repeat (first|refine gO rfl ?_|((((with_reducible refine xS ?_);refine uD 9 zM21 zPVE zPVP 96 rfl (by kernel_rfl) ?_))<;>((try with_reducible intro K1 hK1);simp only [go_sem,↓reduceIte,reduceCtorEq,nA,nB,nC,nD,nE,nF,hC3,hI3,encCa,hml]<;>and_intros<;>(apply hK1;clear hK1 K1)))))
   refine awp_cond (t:=_) rfl (fun h9=>by cases h9) (fun _=>?_)
   (repeat ((refine gO rfl ?_)))
   rfl
 rintro _ rfl
 clear hbig hlen2
 (repeat (first|refine gQ rfl ?_|((refine gM zM21 fun K1 hK1=>?_;simp only [go_sem,↓reduceIte,reduceCtorEq,nA,nB,nC,nD,nE,nF]<;>and_intros<;>(apply hK1;clear hK1 K1)))))
 refine awp_own 11 1 rfl ⟨rfl,rfl⟩ (fun kt hkt=>?_)
 replace hkt:T2 kt=none:=hkt
 refine awp_cut (rl false [0,3,5,1,1,2,84]) 0 (?_:Awp _ _ _ _ ⟨((.ptr ci 0) :: (.v (.string item)) :: (.v (.int .i64 bytes)) :: (jnk 5 ((.ptr i 0) :: AV.junk :: ((cutLoc 0 fk) :: (.row 1 [] (some kt)) :: (jnk 84 []))))),[],⟨upd h.H i (some (.cells [.row 1 (gone.map encR) (some kg)])),upd T2 kt (some (.tail 0))⟩⟩)
 rw [hcl]
 have hkk:k≠kt:=by rintro rfl;rw [hT2] at hkt;cases hkt
 have hl2:=hglen
 skip
 refine awp_seq ?_
 (repeat (first|refine gQ rfl ?_|((refine gM zM21 fun K1 hK1=>?_;simp only [go_sem,↓reduceIte,reduceCtorEq,nA,nB,nC,nD,nE,nF,hI3,hml]<;>and_intros<;>(apply hK1;clear hK1 K1)))))
 refine awp_loopC (rl false [0,3,5,1,1,2,33,3,48]) 0 (fun g s=>∃ j:Nat,g+j=gone.length ∧
  s=⟨((.ptr ci 0) :: (.v (.string item)) :: (.v (.int .i64 bytes)) :: (jnk 5 ((.ptr i 0) :: AV.junk :: ((fk) :: (.row 1 ((gone.take j).map fun p=>encNm (K p)) (some kt)) :: (jnk 33 ((.row 1 (gone.map encR) (some kg)) :: (.v (.int .i64 gone.length)) :: (.v (.int .i64 j)) :: (jnk 48 []))))))),[],⟨upd h.H i (some (.cells [.row 1 (gone.map encR) (some kg)])),upd T2 kt (some (.tail j))⟩⟩) gone.length ⟨0,by omega,congrArg (fun z=>(⟨((.ptr ci 0) :: (.v (.string item)) :: (.v (.int .i64 bytes)) :: (jnk 5 ((.ptr i 0) :: AV.junk :: ((z) :: (.row 1 ((gone.take 0).map fun p=>encNm (K p)) (some kt)) :: (jnk 33 ((.row 1 (gone.map encR) (some kg)) :: (.v (.int .i64 gone.length)) :: (.v (.int .i64 ((0:Nat):Int))) :: (jnk 48 []))))))),[],⟨upd h.H i (some (.cells [.row 1 (gone.map encR) (some kg)])),upd T2 kt (some (.tail 0))⟩⟩:St)) hcl⟩ ?_
 rintro g _ ⟨j,hj,rfl⟩
 (repeat (first|refine gO rfl ?_|((refine gM zM21 fun K1 hK1=>?_;simp only [go_sem,↓reduceIte,reduceCtorEq,nA,nB,nC,nD,nE,nF]<;>and_intros<;>(apply hK1;clear hK1 K1)))))
 refine awp_cond (t:=_) rfl (fun h1=>?_) (fun h1=>?_)
 ·simp only [decide_eq_true_eq] at h1
  have hjl:j < gone.length:=by omega
  have gx:(gone.map encR).getD j []=encR (gone.getD j default):=getD_enc encR gone j default hjl
  have htj:=take_at' gone j default hjl
  have hpm:gone.getD j default∈ps:=hgmem _ (by rw [List.getD_eq_getElem?_getD,List.getElem?_eq_getElem hjl];exact List.getElem_mem _)
  obtain ⟨p,hp⟩:∃ p,gone.getD j default=p:=⟨_,rfl⟩
  rw [hp] at gx htj hpm
  have hhp:=hK3 p hpm
  have hen:encNm (K p)=[.v (.string (K p).1)]:=rfl
  have htl:(gone.take j).length=j:=by rw [List.length_take];omega
  have htk:upd T2 kt (some (TO.tail j)) kt=some (.tail j):=upd_same _ _ _
  generalize hx:K p=x at *
  obtain ⟨ke,by1,pi,ca,la,ma⟩:=x
  (repeat (first|refine gO rfl ?_|((refine gM zM21 fun K1 hK1=>?_;simp only [go_sem,↓reduceIte,reduceCtorEq,nA,nB,nC,nD,nE,nF,hml,Int.toNat_natCast,gx,encR,hhp,encKp,List.length_map,htl,htk]<;>and_intros<;>first|(apply hK1;clear hK1 K1)|(intros;first|omega|decide)))))
  refine ⟨g - 1,by omega,j+1,by omega,?_⟩
  rw [htj,List.map_append,List.map_cons,hx,hen]
  exact congrArg (fun z=>(⟨((.ptr ci 0) :: (.v (.string item)) :: (.v (.int .i64 bytes)) :: (jnk 5 ((.ptr i 0) :: AV.junk :: ((z) :: (.row 1 (((gone.take j).map fun p=>encNm (K p))++[[.v (.string ke)]]) (some kt)) :: (jnk 33 ((.row 1 (gone.map encR) (some kg)) :: (.v (.int .i64 gone.length)) :: (.v (.int .i64 ((j:Int)+1))) :: (jnk 48 []))))))),[],⟨upd h.H i (some (.cells [.row 1 (gone.map encR) (some kg)])),upd T2 kt (some (.tail (j+1)))⟩⟩:St)) hcl
 simp only [decide_eq_false_iff_not] at h1
 have hjl:j=gone.length:=by omega
 subst hjl
 rw [List.take_length]
 have hT4:upd T2 kt (some (TO.tail gone.length)) k=some (.cont 1 (ps.map encR)):=(upd_other _ _ hkk).trans hT2
 have hde:=g_delK (caps:=[.ptr i 0]) (fun p=>gone.contains p) k ps ⟨upd h.H i (some (.cells [.row 1 (gone.map encR) (some kg)])),upd T2 kt (some (.tail gone.length))⟩ hT4 (by omega) (fun p hp T'=>g_put1 (K:=K) p kg i gone ⟨_,T'⟩ hI3 (hK3 p hp) (fun q hq=>hK3 q (hgmem q hq)) (by omega))
 (repeat (first|refine gO rfl ?_|((refine gM zM21 fun K1 hK1=>?_;simp only [go_sem,↓reduceIte,reduceCtorEq,nA,nB,nC,nD,nE,nF,hC3,encCa]<;>and_intros<;>first|(intros;(decide))|skip))))
 refine hde.mono ?_
 rintro _ ⟨H5,T5⟩ ⟨q,rfl,hH5,hT5,hoth⟩
 simp only at hH5 hT5 hoth
 subst hH5
 refine hK1 _ ?_;clear hK1 K1 hde
 have hst:ps.filter (fun p=>!gone.contains p)=stayF gone ps:=rfl
 rw [hst] at hT5 ⊢
 have hsm:∀ p∈stayF gone ps,p∈ps:=fun p hp=>(List.mem_filter.1 hp).1
 have hsl:(stayF gone ps).length≤ps.length:=List.length_filter_le _ _
 have hsmap:=stayF_map (K:=K) hone hgmem
 have hone2:KeysOne ((stayF gone ps).map K):=by rw [hsmap];exact keysOne_filter hone _
 have hrow:gone.map (fun p=>encNm (K p))=(gone.map K).map encNm:=by rw [List.map_map];rfl
 have hTfr:∀ t,h.T t≠none→t≠k→T5 t=h.T t∧t≠q:=fun t ht htk=>by
  have h1:=hold t ht
  have h2:t≠kt:=by rintro rfl;rw [h1] at hkt;exact ht hkt
  have h3:=hoth t htk (by rw [upd_other _ _ h2,h1];exact ht)
  exact ⟨h3.2.trans ((upd_other _ _ h2).trans h1),h3.1⟩
 have hpci:∀ p∈ps,p≠ci:=fun p hp=>by rintro rfl;exact hci hp
 generalize hSt:stayF gone ps=st at *
 rcases hfc with ⟨hhas,rfl⟩|⟨p,hp,hpk,hhas,rfl⟩
 ·unfold nilP
  (repeat (first|refine gO rfl ?_|((refine gM zM21 fun K1 hK1=>?_;simp only [go_sem,↓reduceIte,reduceCtorEq,nA,nB,nC,nD,nE,nF,hC3,encCa]<;>and_intros<;>(apply hK1;clear hK1 K1)))))
  obtain ⟨H6,hH6⟩:∃ H6,H6=upd (upd h.H i (some (AO.cells [AV.row 1 (List.map encR gone) (some kg)]))) ci (some (AO.cells [.v (.int .i64 room),.v (.int .i64 rule),.v (.int .i64 now),AV.arr 1 q st.length])):=⟨_,rfl⟩
  rw [← hH6]
  have c6:H6 ci=some (.cells (encCa room rule now q st.length)):=by rw [hH6];exact upd_same _ _ _
  have k6:∀ r,r≠ci→r≠i→H6 r=h.H r:=fun r h1 h2=>by rw [hH6,upd_other _ _ h1,upd_other _ _ h2]
  clear hH6
  refine awp_cond (t:=_) rfl (fun _=>?_) (fun h9=>by cases h9)
  (repeat (((refine gM zM21 fun K1 hK1=>?_;simp only [go_sem,↓reduceIte,reduceCtorEq,nA,nB,nC,nD,nE,nF,c6,encCa]<;>and_intros<;>first|(intros;(omega))|skip))))
  intro pn hpn
  replace hpn:H6 pn=none:=hpn
  refine hK1 _ ?_;clear hK1 K1
  have hcn:ci≠pn:=by rintro rfl;rw [c6] at hpn;cases hpn
  have hnc:pn≠ci:=fun e=>hcn e.symm
  have hrn:∀ r,h.H r≠none→r≠ci→r≠pn:=fun r hr h1=>by
   rintro rfl
   rw [k6 r h1 (by rintro rfl;exact hr hi)] at hpn
   exact hr hpn
  have hstl:(st.map encR).length=st.length:=List.length_map _
  have hTq:∀ X,upd T5 q (some (TO.cont 1 X)) q=some (.cont 1 X):=fun X=>upd_same _ _ _
  have hask:=fun H T n (hc:H ci=some (.cells (encCa room rule now q n))) (hpp:H pn=some (.cells (encKp (item,bytes,false,now+1,0,0))))=>g_ask (x:=(item,bytes,false,now+1,0,0)) (h:=⟨H,T⟩) hc hpp hcn (by omega) (by show (0:Int)≤0∧(0:Int)≤1000000000;omega)
  (repeat (first|refine gO rfl ?_|((refine gM zM21 fun K1 hK1=>?_;simp only [go_sem,↓reduceIte,reduceCtorEq,nA,nB,nC,nD,nE,nF,c6,encCa,upd_other _ _ hcn,upd_other _ _ hnc,upd_same,hT5,hstl]<;>and_intros<;>first|(apply hK1;clear hK1 K1)|(intros;first|omega|decide)|skip))))
  refine (hask _ _ (st.length+1) ((upd_other _ _ hcn).trans (upd_same _ _ _)) (upd_same _ _ _)).mono ?_;rintro _ hz ⟨rfl,hh⟩;apply hK1;clear hK1 K1;rw [hh];clear hh hz
  (repeat (first|refine gO rfl ?_|((refine gM zM21 fun K1 hK1=>?_;simp only [go_sem,↓reduceIte,reduceCtorEq,nA,nB,nC,nD,nE,nF]<;>and_intros<;>(apply hK1;clear hK1 K1)))))
  simp only [Tryz.results135,go_sem,↓reduceIte,reduceCtorEq,nA,nB,nC,nD,nE,nF]
  refine ⟨_,_,Weak.refl _,Hp.le.refl _,?_⟩
  unfold PutR
  rw [hP,hhas,if_neg (by decide)]
  have hnst:pn ∉ st:=fun hm=>hrn pn (by rw [hK pn (hsm pn hm)];simp) (hpci pn (hsm pn hm)) rfl
  have hKK:st.map (fun r=>if r=pn then newK item bytes now else K r)=st.map K:=List.map_congr_left fun r hr=>if_neg (fun (e:r=pn)=>hnst (e ▸ hr))
  refine ⟨fun r=>if r=pn then newK item bytes now else K r,st++[pn],q,kt,by rw [hrow],?_,fun r hr=>?_,?_,?_,fun hm=>?_,fun r hr h1 h2=>?_,fun t ht htk=>?_⟩
  ·rw [List.map_append,hKK,hsmap,List.map_cons,List.map_nil,if_pos rfl]
  ·show upd (upd _ ci _) pn _ r=some (AO.cells (encKp (if r=pn then newK item bytes now else K r)))
   by_cases e:r=pn
   ·rw [e,upd_same,if_pos rfl];rfl
   ·have hrs:r∈st:=by
     rcases List.mem_append.1 hr with h1|h1
     ·exact h1
     ·exact absurd (List.mem_singleton.1 h1) e
    rw [upd_other _ _ e,upd_other _ _ (hpci r (hsm r hrs)),upd_other _ _ e,upd_other _ _ (hpci r (hsm r hrs)),upd_other _ _ e,k6 r (hpci r (hsm r hrs)) (hpi r (hsm r hrs)),if_neg e]
    exact hK r (hsm r hrs)
  ·show upd (upd _ ci _) pn _ ci=_
   rw [upd_other _ _ hcn,upd_same,List.length_append,List.length_singleton]
  ·show upd T5 q _ q=_
   rw [upd_same,List.map_append];rfl
  ·rcases List.mem_append.1 hm with h1|h1
   ·exact hci (hsm ci h1)
   ·exact hcn (List.mem_singleton.1 h1)
  ·show upd (upd _ ci _) pn _ r=_
   have e:r≠pn:=hrn r hr h1
   have ei:r≠i:=by rintro rfl;exact hr hi
   rw [upd_other _ _ e,upd_other _ _ h1,upd_other _ _ e,upd_other _ _ h1,upd_other _ _ e,k6 r h1 ei]
  ·show upd T5 q _ t=_
   rw [upd_other _ _ (hTfr t ht htk).2];exact (hTfr t ht htk).1
 ·(repeat (first|refine gO rfl ?_|((refine gM zM21 fun K1 hK1=>?_;simp only [go_sem,↓reduceIte,reduceCtorEq,nA,nB,nC,nD,nE,nF,hC3,encCa]<;>and_intros<;>(apply hK1;clear hK1 K1)))))
  obtain ⟨H6,hH6⟩:∃ H6,H6=upd (upd h.H i (some (AO.cells [AV.row 1 (List.map encR gone) (some kg)]))) ci (some (AO.cells [.v (.int .i64 room),.v (.int .i64 rule),.v (.int .i64 now),AV.arr 1 q st.length])):=⟨_,rfl⟩
  rw [← hH6]
  have c6:H6 ci=some (.cells (encCa room rule now q st.length)):=by rw [hH6];exact upd_same _ _ _
  have k6:∀ r,r≠ci→r≠i→H6 r=h.H r:=fun r h1 h2=>by rw [hH6,upd_other _ _ h1,upd_other _ _ h2]
  clear hH6
  refine awp_cond (t:=_) rfl (fun h9=>by cases h9) (fun _=>?_)
  have p6:H6 p=some (.cells (encKp (K p))):=(k6 p (hpci p hp) (hpi p hp)).trans (hK p hp)
  have hMp:=hM p hp
  have hask:=fun H (hc:H ci=some (.cells (encCa room rule now q st.length))) (hpp:H p=some (.cells (encKp (setB bytes (K p)))))=>g_ask (x:=setB bytes (K p)) (h:=⟨H,T5⟩) hc hpp (hpci p hp).symm (by omega) hMp
  have hcp:ci≠p:=(hpci p hp).symm
  have hKe:encKp (setB bytes (K p))=[.v (.string (K p).1),.v (.int .i64 bytes),.v (.bool (K p).2.2.1),.v (.int .i64 (K p).2.2.2.1),.v (.int .i64 (K p).2.2.2.2.1),.v (.int .i64 (K p).2.2.2.2.2)]:=rfl
  have hKe2:encKp (K p)=[.v (.string (K p).1),.v (.int .i64 (K p).2.1),.v (.bool (K p).2.2.1),.v (.int .i64 (K p).2.2.2.1),.v (.int .i64 (K p).2.2.2.2.1),.v (.int .i64 (K p).2.2.2.2.2)]:=rfl
  rw [hKe2] at p6
  (repeat (first|refine gO rfl ?_|((refine gM zM21 fun K1 hK1=>?_;simp only [go_sem,↓reduceIte,reduceCtorEq,nA,nB,nC,nD,nE,nF,p6]<;>and_intros<;>first|(apply hK1;clear hK1 K1)|skip))))
  refine (hask _ ((upd_other _ _ hcp).trans c6) (by rw [hKe];exact upd_same _ _ _)).mono ?_;rintro _ hz ⟨rfl,hh⟩;apply hK1;clear hK1 K1;rw [hh];clear hh hz
  (repeat (first|refine gO rfl ?_|((refine gM zM21 fun K1 hK1=>?_;simp only [go_sem,↓reduceIte,reduceCtorEq,nA,nB,nC,nD,nE,nF]<;>and_intros<;>(apply hK1;clear hK1 K1)))))
  simp only [Tryz.results135,go_sem,↓reduceIte,reduceCtorEq,nA,nB,nC,nD,nE,nF]
  refine ⟨_,_,Weak.refl _,Hp.le.refl _,?_⟩
  unfold PutR
  rw [hP,hhas,if_pos rfl]
  have hps:p∈st:=by
   rw [← hSt]
   refine List.mem_filter.2 ⟨hp,?_⟩
   cases hc:gone.contains p with
   | false=>rfl
   | true=>exact absurd hpk (hgnot p (List.contains_iff_mem.1 hc))
  refine ⟨fun r=>if r=p then askF (now+1) (setB bytes (K p)) else K r,st,q,kt,by rw [hrow],?_,fun r hr=>?_,?_,hT5,fun hm=>hci (hsm ci hm),fun r hr h1 h2=>?_,fun t ht htk=>(hTfr t ht htk).1⟩
  ·rw [← hsmap]
   exact atK_map (fun x=>askF (now+1) (setB bytes x)) hone2 hps hpk
  ·show upd (upd _ ci _) p _ r=some (AO.cells (encKp (if r=p then askF (now+1) (setB bytes (K p)) else K r)))
   by_cases e:r=p
   ·subst e;rw [upd_same,if_pos rfl]
   ·rw [upd_other _ _ e,upd_other _ _ (hpci r (hsm r hr)),upd_other _ _ e,k6 r (hpci r (hsm r hr)) (hpi r (hsm r hr)),if_neg e]
    exact hK r (hsm r hr)
  ·show upd (upd _ ci _) p _ ci=_
   rw [upd_other _ _ hcp,upd_same]
  ·show upd (upd _ ci _) p _ r=_
   have e:r≠p:=fun e=>h2 (e ▸ hp)
   have ei:r≠i:=by rintro rfl;exact hr hi
   rw [upd_other _ _ e,upd_other _ _ h1,upd_other _ _ e,k6 r h1 ei]
def missB (room rule:Int):List ByteArray→Int→List Kp→Bool
  | [],_,_=>true
  | s :: l,now,L=>decide (L.length≤11) && (if hasL s L then missB room rule l (now+1) (atK s (askF (now+1)) L) else
    match putL room rule now L s 1 with
    | some (L',_)=>missB room rule l (now+1) L'
    | none=>false)
def OkL (now:Int) (L:List Kp):Prop:=∀ x∈L,x.2.1=1∧0≤x.2.2.2.2.2∧x.2.2.2.2.2≤now
theorem OkL.ask {now:Int} {L:List Kp} (h:OkL now L) (s:ByteArray):OkL (now+1) (atK s (askF (now+1)) L):=fun x hx=>by
  obtain ⟨y,hy,rfl⟩:=List.mem_map.1 hx
  have:=h y hy
  split
  · exact ⟨this.1,by show 0≤y.2.2.2.2.2+1∧y.2.2.2.2.2+1≤now+1;omega⟩
  · exact ⟨this.1,by omega⟩
theorem OkL.put {now:Int} {L L' g:List Kp} (h:OkL now L) (h0:0≤now) {room rule:Int} {s:ByteArray} (hp:putL room rule now L s 1=some (L',g)):OkL (now+1) L':=by
  unfold putL at hp
  split at hp
  · simp only [Option.some.injEq,Prod.mk.injEq] at hp
    obtain ⟨rfl,_⟩:=hp
    split
    · intro x hx
      obtain ⟨y,hy,rfl⟩:=List.mem_map.1 hx
      have:=h y (leftL_sub hy)
      split
      · exact ⟨rfl,by show 0≤y.2.2.2.2.2+1∧y.2.2.2.2.2+1≤now+1;omega⟩
      · exact ⟨this.1,by omega⟩
    · intro x hx
      rcases List.mem_append.1 hx with hx|hx
      · have:=h x (leftL_sub hx)
        exact ⟨this.1,by omega⟩
      · rw [List.mem_singleton] at hx
        subst hx
        exact ⟨rfl,by show (0:Int)≤1∧(1:Int)≤now+1;omega⟩
  · cases hp
theorem missL_cons (room rule:Int) (s:ByteArray) (l:List ByteArray) (now:Int) (L:List Kp) (n:Int):missL room rule (s :: l) now L n=if hasL s L then missL room rule l (now+1) (atK s (askF (now+1)) L) n else
    match putL room rule now L s 1 with
    | some (L',_)=>missL room rule l (now+1) L' (n+1)
    | none=>none:=rfl
theorem missB_cons (room rule:Int) (s:ByteArray) (l:List ByteArray) (now:Int) (L:List Kp):missB room rule (s :: l) now L=(decide (L.length≤11) && (if hasL s L then missB room rule l (now+1) (atK s (askF (now+1)) L) else
    match putL room rule now L s 1 with
    | some (L',_)=>missB room rule l (now+1) L'
    | none=>false)):=rfl
def encT (x:ByteArray):List AV:=[.v (.string x)]
theorem g_ruleFault (rule:Int) (h:Hp) (h1:1≤rule∧rule≤4):ACalls Tryz.prog 131 [.v (.int .i64 rule)] h (fun r h'=>r=.v (.int .i64 0)∧h'=h):=by
 have hO:=a_outside rule 1 4
 have hE:(decide (rule < 1) || decide (4 < rule))=false:=by simp;omega
 refine gE Tryz.func131 rfl (by kernel_rfl) 4 rfl fun c=>?_
 (repeat (first|refine gO rfl ?_|(refine gR fun K1 hK1=>?_;simp only [go_sem,↓reduceIte,reduceCtorEq,nA,nB,nC,nD,nE,nF]<;>and_intros<;>first|(apply hK1;clear hK1 K1)|skip)))
 refine (hO _).mono ?_;rintro _ hz ⟨rfl,hh⟩;apply hK1;clear hK1 K1;rw [hh];clear hh hz
 rw [hE]
 (repeat ((refine gO rfl ?_)))
 refine awp_cond (t:=_) rfl (fun h9=>by cases h9) (fun _=>?_)
 (repeat (first|refine gO rfl ?_|(refine gR fun K1 hK1=>?_;simp only [go_sem,↓reduceIte,reduceCtorEq,nA,nB,nC,nD,nE,nF]<;>and_intros<;>(apply hK1;clear hK1 K1))))
 simp only [Tryz.results131,go_sem,↓reduceIte,reduceCtorEq,nA,nB,nC,nD,nE,nF]
 exact ⟨_,_,Weak.refl _,Hp.le.refl _,rfl,rfl⟩
theorem g_usesFault (l:List ByteArray) (h:Hp) (hl:l.length≤2000) (hk:∀ s∈l,keyB s=true∧s.size≤1000):ACalls Tryz.prog 132 [.row 1 (l.map encT) none] h (fun r h'=>r=.v (.int .i64 0)∧h'=h):=by
 have hml:(l.map encT).length=l.length:=List.length_map _
 have hb:decide ((2000:Int) < (l.length:Int))=false:=by simp;omega
 refine gE Tryz.func132 rfl (by kernel_rfl) 17 rfl fun c=>?_
 (repeat (first|refine gO rfl ?_|(refine gR fun K1 hK1=>?_;simp only [go_sem,↓reduceIte,reduceCtorEq,nA,nB,nC,nD,nE,nF,hml]<;>and_intros<;>(apply hK1;clear hK1 K1))))
 refine awp_cond (t:=_) rfl (fun h9=>by rw [hb] at h9;cases h9) (fun _=>?_)
 (repeat (first|refine gO rfl ?_|(refine gR fun K1 hK1=>?_;simp only [go_sem,↓reduceIte,reduceCtorEq,nA,nB,nC,nD,nE,nF,hml]<;>and_intros<;>(apply hK1;clear hK1 K1))))
 refine awp_loopC (rl false [8,3,7]) 0 (fun g s=>∃ j:Nat,g+j=l.length ∧
  s=⟨((jnk 8 ((.row 1 (l.map encT) none) :: (.v (.int .i64 l.length)) :: (.v (.int .i64 j)) :: (jnk 7 [])))),[],h⟩) l.length ⟨0,by omega,rfl⟩ ?_
 rintro g _ ⟨j,hj,rfl⟩
 (repeat (first|refine gO rfl ?_|(refine gR fun K1 hK1=>?_;simp only [go_sem,↓reduceIte,reduceCtorEq,nA,nB,nC,nD,nE,nF]<;>and_intros<;>(apply hK1;clear hK1 K1))))
 refine awp_cond (t:=_) rfl (fun h1=>?_) (fun h1=>?_)
 ·simp only [decide_eq_true_eq] at h1
  have hjl:j < l.length:=by omega
  have gx:(l.map encT).getD j []=encT (l.getD j default):=getD_enc encT l j default hjl
  obtain ⟨hk1,hk2⟩:=hk (l.getD j default) (by rw [List.getD_eq_getElem?_getD,List.getElem?_eq_getElem hjl];exact List.getElem_mem _)
  generalize l.getD j default=s at *
  have hkk:=a_isKey s (by omega) h
  rw [hk1] at hkk
  (repeat (first|refine gO rfl ?_|(refine gR fun K1 hK1=>?_;simp only [go_sem,↓reduceIte,reduceCtorEq,nA,nB,nC,nD,nE,nF,hml,Int.toNat_natCast,gx,encT]<;>and_intros<;>first|(apply hK1;clear hK1 K1)|(intros;(omega))|skip)))
  refine hkk.mono ?_;rintro _ hz ⟨rfl,hh⟩;apply hK1;clear hK1 K1;rw [hh];clear hh hz
  (repeat (first|refine gO rfl ?_|(refine gR fun K1 hK1=>?_;simp only [go_sem,↓reduceIte,reduceCtorEq,nA,nB,nC,nD,nE,nF]<;>and_intros<;>(apply hK1;clear hK1 K1))))
  refine awp_cond (t:=_) rfl (fun h9=>by cases h9) (fun _=>?_)
  (repeat (first|refine gO rfl ?_|(refine gR fun K1 hK1=>?_;simp only [go_sem,↓reduceIte,reduceCtorEq,nA,nB,nC,nD,nE,nF]<;>and_intros<;>first|(apply hK1;clear hK1 K1)|(intros;(omega)))))
  exact ⟨g - 1,by omega,j+1,by omega,rfl⟩
 ·(repeat (first|refine gO rfl ?_|(refine gR fun K1 hK1=>?_;simp only [go_sem,↓reduceIte,reduceCtorEq,nA,nB,nC,nD,nE,nF]<;>and_intros<;>(apply hK1;clear hK1 K1))))
  simp only [Tryz.results132,go_sem,↓reduceIte,reduceCtorEq,nA,nB,nC,nD,nE,nF]
  exact ⟨_,_,Weak.refl _,Hp.le.refl _,rfl,rfl⟩
theorem g_misses (room rule N:Int) (l:List ByteArray) (h:Hp) (hr:1≤room∧room≤500) (hru:1≤rule∧rule≤4) (hl:l.length≤2000) (hk:∀ s∈l,keyB s=true∧s.size≤1000) (hm:missL room rule l 0 [] 0=some N) (hmb:missB room rule l 0 []=true) :
  ACalls Tryz.prog 71 [.v (.int .i64 room),.v (.int .i64 rule),.row 1 (l.map encT) none] h (fun r h'=>r=.tup [.v (.int .i64 N),.v (.int .i64 0)]):=by
 have hml:(l.map encT).length=l.length:=List.length_map _
 have hO:=a_outside room 1 500
 have hE:(decide (room < 1) || decide (500 < room))=false:=by simp;omega
 refine gE Tryz.func71 rfl (by kernel_rfl) 57 rfl fun c=>?_
 (repeat (first|refine gO rfl ?_|(refine gM zM22 fun K1 hK1=>?_;simp only [go_sem,↓reduceIte,reduceCtorEq,nA,nB,nC,nD,nE,nF]<;>and_intros<;>first|(apply hK1;clear hK1 K1)|skip)))
 refine (hO _).mono ?_;rintro _ hz ⟨rfl,hh⟩;apply hK1;clear hK1 K1;rw [hh];clear hh hz
 rw [hE]
 (repeat ((refine gO rfl ?_)))
 refine awp_cond (t:=_) rfl (fun h9=>by cases h9) (fun _=>?_)
 (repeat (first|refine gO rfl ?_|(refine gM zM22 fun K1 hK1=>?_;simp only [go_sem,↓reduceIte,reduceCtorEq,nA,nB,nC,nD,nE,nF]<;>and_intros)))
 refine (g_ruleFault rule _ hru).mono ?_;rintro _ hz ⟨rfl,hh⟩;apply hK1;clear hK1 K1;rw [hh];clear hh hz
 (repeat (first|refine gO rfl ?_|(refine gM zM22 fun K1 hK1=>?_;simp only [go_sem,↓reduceIte,reduceCtorEq,nA,nB,nC,nD,nE,nF]<;>and_intros<;>(apply hK1;clear hK1 K1))))
 refine awp_cond (t:=_) rfl (fun h9=>by cases h9) (fun _=>?_)
 (repeat (first|refine gO rfl ?_|(refine gM zM22 fun K1 hK1=>?_;simp only [go_sem,↓reduceIte,reduceCtorEq,nA,nB,nC,nD,nE,nF]<;>and_intros)))
 refine (g_usesFault l _ hl hk).mono ?_;rintro _ hz ⟨rfl,hh⟩;apply hK1;clear hK1 K1;rw [hh];clear hh hz
 (repeat (first|refine gO rfl ?_|(refine gM zM22 fun K1 hK1=>?_;simp only [go_sem,↓reduceIte,reduceCtorEq,nA,nB,nC,nD,nE,nF]<;>and_intros<;>(apply hK1;clear hK1 K1))))
 refine awp_cond (t:=_) rfl (fun h9=>by cases h9) (fun _=>?_)
 (repeat (first|refine gO rfl ?_|(refine gM zM22 fun K1 hK1=>?_;simp only [go_sem,↓reduceIte,reduceCtorEq,nA,nB,nC,nD,nE,nF]<;>and_intros)))
 intro ci hci
 refine hK1 _ ?_;clear hK1 K1
 (repeat (first|refine gO rfl ?_|(refine gM zM22 fun K1 hK1=>?_;simp only [go_sem,↓reduceIte,reduceCtorEq,nA,nB,nC,nD,nE,nF,hml]<;>and_intros<;>(apply hK1;clear hK1 K1))))
 refine awp_ownObj ci 3 1 (cs:=[.v (.int .i64 room),.v (.int .i64 rule),.v (.int .i64 0),.v (.slice none 0 0)]) (upd_same _ _ _) rfl (fun k0 hk0=>?_)
 refine awp_loopC (rl false [10,2,21,3,24]) 0 (fun g s=>∃ (j:Nat) (n:Int) (K:Nat→Kp) (ps:List Nat) (k:Nat) (h':Hp),g+j=l.length∧missL room rule (l.drop j) j (ps.map K) n=some N∧missB room rule (l.drop j) j (ps.map K)=true∧0≤n∧n≤j ∧
   h'.H ci=some (.cells (encCa room rule j k ps.length))∧h'.T k=some (.cont 1 (ps.map encR))∧CacheH h' K ps∧ci ∉ ps∧KeysOne (ps.map K)∧OkL j (ps.map K) ∧
  s=⟨((jnk 10 ((.ptr ci 0) :: (.v (.int .i64 n)) :: (jnk 21 ((.row 1 (l.map encT) none) :: (.v (.int .i64 l.length)) :: (.v (.int .i64 j)) :: (jnk 24 [])))))),[],h'⟩) l.length
  ⟨0,0,fun _=>default,[],k0,⟨upd (upd h.H ci (some (.cells [.v (.int .i64 room),.v (.int .i64 rule),.v (.int .i64 0),.v (.slice none 0 0)]))) ci (some (.cells (encCa room rule ((0:Nat):Int) k0 0))),upd h.T k0 (some (.cont 1 []))⟩,by omega,by rw [List.drop_zero];exact hm,by rw [List.drop_zero];exact hmb,by omega,by omega,upd_same _ _ _,upd_same _ _ _,(fun p hp=>by cases hp),(by simp),List.Pairwise.nil,(fun x hx=>by cases hx),rfl⟩ ?_
 rintro g _ ⟨j,n,K,ps,k,h',hj,hmj,hbj,hn0,hnj,hC,hT,hK,hcp,hone,hok,rfl⟩
 (repeat (first|refine gO rfl ?_|(refine gM zM22 fun K1 hK1=>?_;simp only [go_sem,↓reduceIte,reduceCtorEq,nA,nB,nC,nD,nE,nF]<;>and_intros<;>(apply hK1;clear hK1 K1))))
 refine awp_cond (t:=_) rfl (fun h1=>?_) (fun h1=>?_)
 ·simp only [decide_eq_true_eq] at h1
  have hjl:j < l.length:=by omega
  have gx:(l.map encT).getD j []=encT (l.getD j default):=getD_enc encT l j default hjl
  have hdj:=drop_at' l j default hjl
  obtain ⟨hk1,hk2⟩:=hk (l.getD j default) (by rw [List.getD_eq_getElem?_getD,List.getElem?_eq_getElem hjl];exact List.getElem_mem _)
  generalize l.getD j default=s at *
  rw [hdj,missL_cons] at hmj
  rw [hdj,missB_cons,Bool.and_eq_true,decide_eq_true_eq,List.length_map] at hbj
  obtain ⟨hp11,hbj⟩:=hbj
  have hkk:=fun h=>a_isKey s (by omega) h
  rw [hk1] at hkk
  have hokp:∀ p∈ps,(K p).2.1=1∧0≤(K p).2.2.2.2.2∧(K p).2.2.2.2.2≤j:=fun p hp=>hok (K p) (List.mem_map_of_mem hp)
  have hfi:=g_find (item:=s) K ci k room rule j ps h' hC hT (by omega) hK
  have hfc:=findF_cases s K ps
  (repeat (first|refine gO rfl ?_|(refine gM zM22 fun K1 hK1=>?_;simp only [go_sem,↓reduceIte,reduceCtorEq,nA,nB,nC,nD,nE,nF,hml,Int.toNat_natCast,gx,encT]<;>and_intros<;>first|(apply hK1;clear hK1 K1)|(intros;(omega))|skip)))
  refine hfi.mono ?_
  rintro fk hz ⟨rfl,hh⟩;apply hK1;clear hK1 K1;rw [hh];clear hh hz hfi
  rcases hfc with ⟨hhas,e⟩|⟨p,hp,hpk,hhas,e⟩
  ·rw [e]
   unfold nilP
   rw [hhas,if_neg (by decide)] at hmj hbj
   have hpu:=g_put (room:=room) (rule:=rule) (now:=j) (bytes:=1) (item:=s) hC hT hp11 hK hcp hone hkk (fun p hp=>by have:=hokp p hp;omega) (fun p hp=>by have:=hokp p hp;omega) (by omega) (by omega) (by omega)
   unfold PutR at hpu
   cases hput:putL room rule j (ps.map K) s 1 with
   | none=>rw [hput] at hmj;cases hmj
   | some y =>
    obtain ⟨L',gn⟩:=y
    rw [hput] at hmj hbj hpu
    simp only at hmj hbj hpu
    (repeat (first|refine gO rfl ?_|(refine gM zM22 fun K1 hK1=>?_;simp only [go_sem,↓reduceIte,reduceCtorEq,nA,nB,nC,nD,nE,nF]<;>and_intros<;>(apply hK1;clear hK1 K1))))
    refine awp_cond (t:=_) rfl (fun h9=>by cases h9) (fun _=>?_)
    (repeat (first|refine gO rfl ?_|(refine gM zM22 fun K1 hK1=>?_;simp only [go_sem,↓reduceIte,reduceCtorEq,nA,nB,nC,nD,nE,nF]<;>and_intros<;>first|(apply hK1;clear hK1 K1)|(intros;(omega))|skip)))
    refine hpu.mono ?_
    rintro _ h2 ⟨K2,ps2,k2,kt,rfl,hL,hK2,hC2,hT2,hcp2,_,_⟩
    refine hK1 _ ?_;clear hK1 K1 hpu
    (repeat (first|refine gO rfl ?_|(refine gM zM22 fun K1 hK1=>?_;simp only [go_sem,↓reduceIte,reduceCtorEq,nA,nB,nC,nD,nE,nF]<;>and_intros<;>(apply hK1;clear hK1 K1))))
    refine awp_cond (t:=_) rfl (fun h9=>by cases h9) (fun _=>?_)
    (repeat (first|refine gO rfl ?_|(refine gM zM22 fun K1 hK1=>?_;simp only [go_sem,↓reduceIte,reduceCtorEq,nA,nB,nC,nD,nE,nF]<;>and_intros<;>first|(apply hK1;clear hK1 K1)|(intros;(omega)))))
    have hone2:=putL_one hput hone
    have hok2:=hok.put (by omega) hput
    rw [← hL] at hmj hbj hone2 hok2
    refine ⟨g - 1,by omega,j+1,n+1,K2,ps2,k2,h2,by omega,hmj,hbj,by omega,by omega,hC2,hT2,hK2,hcp2,hone2,hok2,rfl⟩
  ·rw [e]
   rw [hhas,if_pos rfl] at hmj hbj
   have hokk:=hokp p hp
   have hpc:ci≠p:=by rintro rfl;exact hcp hp
   have has:=g_ask (now:=j) hC (hK p hp) hpc (by omega) (by omega)
   (repeat (first|refine gO rfl ?_|(refine gM zM22 fun K1 hK1=>?_;simp only [go_sem,↓reduceIte,reduceCtorEq,nA,nB,nC,nD,nE,nF]<;>and_intros<;>(apply hK1;clear hK1 K1))))
   refine awp_cond (t:=_) rfl (fun _=>?_) (fun h9=>by cases h9)
   (repeat ((refine gM zM22 fun K1 hK1=>?_;simp only [go_sem,↓reduceIte,reduceCtorEq,nA,nB,nC,nD,nE,nF]<;>and_intros)))
   refine has.mono ?_;rintro _ hz ⟨rfl,hh⟩;apply hK1;clear hK1 K1;rw [hh];clear hh hz
   (repeat (first|refine gO rfl ?_|(refine gM zM22 fun K1 hK1=>?_;simp only [go_sem,↓reduceIte,reduceCtorEq,nA,nB,nC,nD,nE,nF]<;>and_intros<;>first|(apply hK1;clear hK1 K1)|(intros;(omega)))))
   have hat:=atK_map (item:=s) (fun x=>askF ((j:Int)+1) x) hone hp hpk
   have hone2:=atK_one (item:=s) (f:=askF ((j:Int)+1)) (fun _=>rfl) hone
   have hok2:=hok.ask s
   rw [← hat] at hmj hbj hone2 hok2
   refine ⟨g - 1,by omega,j+1,n,fun q=>if q=p then askF ((j:Int)+1) (K p) else K q,ps,k,⟨upd (upd h'.H ci (some (.cells (encCa room rule ((j:Int)+1) k ps.length)))) p (some (.cells (encKp (askF ((j:Int)+1) (K p))))),h'.T⟩,by omega,hmj,hbj,by omega,by omega,(upd_other _ _ hpc).trans (upd_same _ _ _),hT,fun q hq=>?_,hcp,hone2,hok2,rfl⟩
   show upd (upd _ ci _) p _ q=some (AO.cells (encKp (if q=p then askF ((j:Int)+1) (K p) else K q)))
   by_cases e2:q=p
   ·rw [e2,upd_same,if_pos rfl]
   ·rw [upd_other _ _ e2,upd_other _ _ (by rintro rfl;exact hcp hq),if_neg e2]
    exact hK q hq
 ·simp only [decide_eq_false_iff_not] at h1
  have hjl:j=l.length:=by omega
  subst hjl
  rw [List.drop_length] at hmj
  obtain rfl:n=N:=by simpa [missL] using hmj
  (repeat (first|refine gO rfl ?_|(refine gM zM22 fun K1 hK1=>?_;simp only [go_sem,↓reduceIte,reduceCtorEq,nA,nB,nC,nD,nE,nF]<;>and_intros<;>(apply hK1;clear hK1 K1))))
  simp only [Tryz.results71,go_sem,↓reduceIte,reduceCtorEq,nA,nB,nC,nD,nE,nF]
  exact ⟨_,_,Weak.refl _,Hp.le.refl _,rfl⟩
theorem g_miss5 (h:Hp):ACalls Tryz.prog 71 [.v (.int .i64 2),.v (.int .i64 1),.row 1 [[.v (.string ⟨#[97]⟩)],[.v (.string ⟨#[98]⟩)],[.v (.string ⟨#[97]⟩)],[.v (.string ⟨#[99]⟩)],[.v (.string ⟨#[98]⟩)]] none] h (fun r h'=>r=.tup [.v (.int .i64 4),.v (.int .i64 0)]) :=
 g_misses 2 1 4 [⟨#[97]⟩,⟨#[98]⟩,⟨#[97]⟩,⟨#[99]⟩,⟨#[98]⟩] h (by omega) (by omega) (by decide) (by decide) (by decide) (by decide)
abbrev zPWE:List Nat:=[0,1,2,3,4,5,6,7,8,9,10,11]
abbrev zPWP:List (Nat × List Nat × List Nat):=[]
abbrev zPXE:List Nat:=[0,1,2,3]
abbrev zPXP:List (Nat × List Nat × List Nat):=[(4,[0],[5]),(6,[],[7])]
abbrev zPYE:List Nat:=[0,1,2,3,4,5]
abbrev zPYP:List (Nat × List Nat × List Nat):=[(6,[4],[7]),(8,[],[9,10]),(11,[],[])]
abbrev zPZE:List Nat:=[0,1,2,3,4,5,6,7,8,9,10]
abbrev zPZP:List (Nat × List Nat × List Nat):=[]
abbrev zP10E:List Nat:=[0,1,2,3,4,5,6,7,8,9,10,11,12,13,14,15,16]
abbrev zP10P:List (Nat × List Nat × List Nat):=[(17,[],[18,19]),(20,[],[])]
abbrev zP11E:List Nat:=[0,1,2,3,4,5,6,7,8,9,10,11,12,13,14,15,16]
abbrev zP11P:List (Nat × List Nat × List Nat):=[(17,[],[])]
abbrev zP12E:List Nat:=[0,1,2,3,4,5,6,7,8]
abbrev zP12P:List (Nat × List Nat × List Nat):=[(9,[3],[10,11])]
abbrev zP13E:List Nat:=[0,1,2,3,4,5,6,7,8,9,10]
abbrev zP13P:List (Nat × List Nat × List Nat):=[]
attribute [go_sem] zPWE zPWP zPXE zPXP zPYE zPYP zPZE zPZP zP10E zP10P zP11E zP11P zP12E zP12P zP13E zP13P
def nlS:AV:=.v (.slice none 0 0)
def lA:List AV:=[.v (.int .i64 1),.v (.string ⟨#[97]⟩),.v (.int .i64 5),.v (.int .i64 0),nlS,nlS]
theorem ba1:((⟨#[97]⟩:ByteArray) == ⟨#[]⟩)=false:=by decide
theorem c_ixL (f:Nat) (caps:List AV) (h:Hp):ACalls Tryz.prog 255 [nlS,.fn f caps] h (fun r h'=>r=.v (.int .i64 (-1))∧h'=h):=by
 unfold nlS
 refine gE Tryz.func255 rfl (by kernel_rfl) 17 rfl fun c=>?_
 (repeat (first|refine gO rfl ?_|(refine gR fun K1 hK1=>?_;simp only [go_sem,↓reduceIte,reduceCtorEq,nA,nB,nC,nD,nE,nF,Int.reduceBEq,Int.reduceTMod,Int.reduceTDiv,Int.reduceMul,Int.reduceBNe,Int.reduceLT,Int.reduceLE,Int.reduceAdd,Int.reduceSub,Int.reduceNeg,decide_true,decide_false,Bool.true_and,Bool.false_and,Bool.and_true,Bool.and_false,Bool.or_false,Bool.or_true,Bool.true_or,Bool.false_or,Bool.not_true,Bool.not_false,true_implies,false_implies,true_and,and_true,Int.reduceToNat]<;>and_intros<;>(apply hK1;clear hK1 K1))|(refine awp_cond (t:=_) rfl (fun hq=>?_) (fun hq=>?_)<;>first|(exact absurd hq (by decide))|(clear hq))|(refine awp_un 8 ?_)))
 simp only [Tryz.results255,go_sem,↓reduceIte,reduceCtorEq,nA,nB,nC,nD,nE,nF]
 exact ⟨_,_,Weak.refl _,Hp.le.refl _,rfl,rfl⟩
theorem c_coL (f:Nat) (caps:List AV) (h:Hp):ACalls Tryz.prog 197 [nlS,.fn f caps] h (fun r h'=>r=.v (.bool false)∧h'=h):=by
 have h1:=c_ixL f caps h
 unfold nlS at *
 refine gE Tryz.func197 rfl (by kernel_rfl) 7 rfl fun c=>?_
 (repeat (first|refine gO rfl ?_|(refine gR fun K1 hK1=>?_;simp only [go_sem,↓reduceIte,reduceCtorEq,nA,nB,nC,nD,nE,nF,Int.reduceBEq,Int.reduceTMod,Int.reduceTDiv,Int.reduceMul,Int.reduceBNe,Int.reduceLT,Int.reduceLE,Int.reduceAdd,Int.reduceSub,Int.reduceNeg,decide_true,decide_false,Bool.true_and,Bool.false_and,Bool.and_true,Bool.and_false,Bool.or_false,Bool.or_true,Bool.true_or,Bool.false_or,Bool.not_true,Bool.not_false,true_implies,false_implies,true_and,and_true,Int.reduceToNat]<;>and_intros<;>first|(apply hK1;clear hK1 K1)|skip)|(refine (h1).mono ?_;rintro _ hz ⟨rfl,hh⟩;((refine hK1 _ ?_));clear hK1 K1;rw [hh];clear hh hz)))
 simp only [Tryz.results197,go_sem,↓reduceIte,reduceCtorEq,nA,nB,nC,nD,nE,nF]
 exact ⟨_,_,Weak.refl _,Hp.le.refl _,rfl,rfl⟩
theorem c_large (i:Nat) (h:Hp) (hi:h.H i=some (.cells [.v (.int .i64 0)])):ACalls Tryz.prog 139 [.ptr i 0,.agg lA,.v (.int .i64 1)] h (fun r h'=>r=.v (.bool false)∧h'=⟨upd h.H i (some (.cells [.v (.int .i64 1)])),h.T⟩):=by
 have h1:=fun f caps h=>c_coL f caps h
 unfold lA
 unfold nlS at *
 refine gE Tryz.func139 rfl (by kernel_rfl) 24 rfl fun c=>?_
 (repeat (first|refine gO rfl ?_|(refine gR fun K1 hK1=>?_;simp only [go_sem,↓reduceIte,reduceCtorEq,nA,nB,nC,nD,nE,nF,Int.reduceBEq,Int.reduceTMod,Int.reduceTDiv,Int.reduceMul,Int.reduceBNe,Int.reduceLT,Int.reduceLE,Int.reduceAdd,Int.reduceSub,Int.reduceNeg,decide_true,decide_false,Bool.true_and,Bool.false_and,Bool.and_true,Bool.and_false,Bool.or_false,Bool.or_true,Bool.true_or,Bool.false_or,Bool.not_true,Bool.not_false,true_implies,false_implies,true_and,and_true,Int.reduceToNat,hi,upd_same]<;>and_intros<;>first|(apply hK1;clear hK1 K1)|(intros;(decide))|skip)|(refine awp_cond (t:=_) rfl (fun hq=>?_) (fun hq=>?_)<;>first|(exact absurd hq (by decide))|(clear hq))|(refine (h1 _ _ _).mono ?_;rintro _ hz ⟨rfl,hh⟩;((refine hK1 _ ?_));clear hK1 K1;rw [hh];clear hh hz)))
 simp only [Tryz.results139,go_sem,↓reduceIte,reduceCtorEq,nA,nB,nC,nD,nE,nF]
 exact ⟨_,_,Weak.refl _,Hp.le.refl _,rfl,rfl⟩
theorem c_form (h:Hp):ACalls Tryz.prog 199 [.agg lA] h (fun r h'=>r=.v (.bool false)∧h'=h):=by
 unfold lA
 unfold nlS at *
 refine gE Tryz.func199 rfl (by kernel_rfl) 77 rfl fun c=>?_
 (repeat (first|refine gO rfl ?_|((first|refine gR ?_|((with_reducible refine xS ?_);refine uD 1 zM20 zPWE zPWP 78 rfl (by kernel_rfl) ?_))<;>((try with_reducible intro K1 hK1);simp only [go_sem,↓reduceIte,reduceCtorEq,nA,nB,nC,nD,nE,nF,Int.reduceBEq,Int.reduceTMod,Int.reduceTDiv,Int.reduceMul,Int.reduceBNe,Int.reduceLT,Int.reduceLE,Int.reduceAdd,Int.reduceSub,Int.reduceNeg,decide_true,decide_false,Bool.true_and,Bool.false_and,Bool.and_true,Bool.and_false,Bool.or_false,Bool.or_true,Bool.true_or,Bool.false_or,Bool.not_true,Bool.not_false,true_implies,false_implies,true_and,and_true,Int.reduceToNat,ba1]<;>and_intros<;>(apply hK1;clear hK1 K1)))|(refine awp_cond (t:=_) rfl (fun hq=>?_) (fun hq=>?_)<;>first|(exact absurd hq (by decide))|(clear hq))))
 simp only [Tryz.results199,go_sem,↓reduceIte,reduceCtorEq,nA,nB,nC,nD,nE,nF]
 exact ⟨_,_,Weak.refl _,Hp.le.refl _,rfl,rfl⟩
theorem c_partFault (h:Hp):ACalls Tryz.prog 140 [.agg lA] h (fun r h'=>r=.v (.int .i64 0)∧h'=h):=by
 have h1:=fun h=>a_outside 1 1 5 h
 have h2:=fun h=>c_form h
 have h3:=fun h=>a_isKey ⟨#[97]⟩ (by decide) h
 have h4:=fun h=>a_outside 5 1 3600000 h
 rw [show keyB ⟨#[97]⟩=true by decide] at h3
 unfold lA at *
 unfold nlS at *
 refine gE Tryz.func140 rfl (by kernel_rfl) 63 rfl fun c=>?_
 (repeat (first|refine gO rfl ?_|(refine gM zM23 fun K1 hK1=>?_;simp only [go_sem,↓reduceIte,reduceCtorEq,nA,nB,nC,nD,nE,nF,Int.reduceBEq,Int.reduceTMod,Int.reduceTDiv,Int.reduceMul,Int.reduceBNe,Int.reduceLT,Int.reduceLE,Int.reduceAdd,Int.reduceSub,Int.reduceNeg,decide_true,decide_false,Bool.true_and,Bool.false_and,Bool.and_true,Bool.and_false,Bool.or_false,Bool.or_true,Bool.true_or,Bool.false_or,Bool.not_true,Bool.not_false,true_implies,false_implies,true_and,and_true,Int.reduceToNat]<;>and_intros<;>first|(apply hK1;clear hK1 K1)|skip)|(refine awp_cond (t:=_) rfl (fun hq=>?_) (fun hq=>?_)<;>first|(exact absurd hq (by decide))|(clear hq))|(refine awp_un 8 ?_)|(refine (h1 _).mono ?_;rintro _ hz ⟨rfl,hh⟩;((refine hK1 _ ?_));clear hK1 K1;rw [hh];clear hh hz)|(refine (h2 _).mono ?_;rintro _ hz ⟨rfl,hh⟩;((refine hK1 _ ?_));clear hK1 K1;rw [hh];clear hh hz)|(refine (h3 _).mono ?_;rintro _ hz ⟨rfl,hh⟩;((refine ⟨rfl,hK1 _ ?_⟩));clear hK1 K1;rw [hh];clear hh hz)|(refine (h4 _).mono ?_;rintro _ hz ⟨rfl,hh⟩;((refine ⟨rfl,hK1 _ ?_⟩));clear hK1 K1;rw [hh];clear hh hz)))
 simp only [Tryz.results140,go_sem,↓reduceIte,reduceCtorEq,nA,nB,nC,nD,nE,nF]
 exact ⟨_,_,Weak.refl _,Hp.le.refl _,rfl,rfl⟩
theorem c_check (h:Hp):ACalls Tryz.prog 73 [.agg lA] h (fun r h'=>r=.v (.int .i64 0)):=by
 have h1:=fun i h (hi:h.H i=some (.cells [.v (.int .i64 0)]))=>c_large i h hi
 have h2:=fun h=>c_partFault h
 unfold lA at *
 unfold nlS at *
 refine gE Tryz.func73 rfl (by kernel_rfl) 8 rfl fun c=>?_
 (repeat (first|refine gO rfl ?_|(refine gM zM24 fun K1 hK1=>?_;simp only [go_sem,↓reduceIte,reduceCtorEq,nA,nB,nC,nD,nE,nF,Int.reduceBEq,Int.reduceTMod,Int.reduceTDiv,Int.reduceMul,Int.reduceBNe,Int.reduceLT,Int.reduceLE,Int.reduceAdd,Int.reduceSub,Int.reduceNeg,decide_true,decide_false,Bool.true_and,Bool.false_and,Bool.and_true,Bool.and_false,Bool.or_false,Bool.or_true,Bool.true_or,Bool.false_or,Bool.not_true,Bool.not_false,true_implies,false_implies,true_and,and_true,Int.reduceToNat]<;>and_intros<;>first|(apply hK1;clear hK1 K1)|skip)))
 intro i hi
 refine hK1 _ ?_;clear hK1 K1
 have h3:=h1 i ⟨upd h.H i (some (.cells [.v (.int .i64 0)])),h.T⟩ (upd_same _ _ _)
 (repeat (first|refine gO rfl ?_|(refine gM zM24 fun K1 hK1=>?_;simp only [go_sem,↓reduceIte,reduceCtorEq,nA,nB,nC,nD,nE,nF,Int.reduceBEq,Int.reduceTMod,Int.reduceTDiv,Int.reduceMul,Int.reduceBNe,Int.reduceLT,Int.reduceLE,Int.reduceAdd,Int.reduceSub,Int.reduceNeg,decide_true,decide_false,Bool.true_and,Bool.false_and,Bool.and_true,Bool.and_false,Bool.or_false,Bool.or_true,Bool.true_or,Bool.false_or,Bool.not_true,Bool.not_false,true_implies,false_implies,true_and,and_true,Int.reduceToNat]<;>and_intros<;>first|(apply hK1;clear hK1 K1)|skip)|(refine awp_cond (t:=_) rfl (fun hq=>?_) (fun hq=>?_)<;>first|(exact absurd hq (by decide))|(clear hq))|(refine (h3).mono ?_;rintro _ hz ⟨rfl,hh⟩;((refine hK1 _ ?_));clear hK1 K1;rw [hh];clear hh hz)|(refine (h2 _).mono ?_;rintro _ hz ⟨rfl,hh⟩;((refine hK1 _ ?_));clear hK1 K1;rw [hh];clear hh hz)))
 simp only [Tryz.results73,go_sem,↓reduceIte,reduceCtorEq,nA,nB,nC,nD,nE,nF]
 exact ⟨_,_,Weak.refl _,Hp.le.refl _,rfl⟩
def pA (had:Int) (k:Nat):List AV:=lA++[nlS,.v (.int .i64 had),.arr 1 k 0,.v (.int .i64 0)]
theorem c_newPart (h:Hp):ACalls Tryz.prog 75 [.agg lA] h (fun r h'=>∃ p k,r=.ptr p 0∧h'.H p=some (.cells (pA 0 k))):=by
 unfold lA
 unfold nlS at *
 refine gE Tryz.func75 rfl (by kernel_rfl) 50 rfl fun c=>?_
 (repeat (first|refine gO rfl ?_|((first|refine gM zM25 ?_|((with_reducible refine xS ?_);refine uD 1 zM25 zPXE zPXP 51 rfl (by kernel_rfl) ?_))<;>((try with_reducible intro K1 hK1);simp only [go_sem,↓reduceIte,reduceCtorEq,nA,nB,nC,nD,nE,nF,Int.reduceBEq,Int.reduceTMod,Int.reduceTDiv,Int.reduceMul,Int.reduceBNe,Int.reduceLT,Int.reduceLE,Int.reduceAdd,Int.reduceSub,Int.reduceNeg,decide_true,decide_false,Bool.true_and,Bool.false_and,Bool.and_true,Bool.and_false,Bool.or_false,Bool.or_true,Bool.true_or,Bool.false_or,Bool.not_true,Bool.not_false,true_implies,false_implies,true_and,and_true,Int.reduceToNat]<;>and_intros<;>first|(apply hK1;clear hK1 K1)|(intros;(omega))|skip))))
 intro k hk
 refine hK1 _ ?_;clear hK1 K1
 (repeat (first|((first|refine gM zM25 ?_|(with_reducible refine wM ?_ ?_))<;>((try with_reducible intro K1 hK1);simp only [go_sem,↓reduceIte,reduceCtorEq,nA,nB,nC,nD,nE,nF,Int.reduceBEq,Int.reduceTMod,Int.reduceTDiv,Int.reduceMul,Int.reduceBNe,Int.reduceLT,Int.reduceLE,Int.reduceAdd,Int.reduceSub,Int.reduceNeg,decide_true,decide_false,Bool.true_and,Bool.false_and,Bool.and_true,Bool.and_false,Bool.or_false,Bool.or_true,Bool.true_or,Bool.false_or,Bool.not_true,Bool.not_false,true_implies,false_implies,true_and,and_true,Int.reduceToNat]<;>and_intros<;>first|(apply hK1;clear hK1 K1)|(intros;(decide))|skip))|(with_reducible exact rfl)))
 intro p hp
 refine hK1 _ ?_;clear hK1 K1
 (repeat (first|refine gO rfl ?_|((first|refine gM zM25 ?_|(with_reducible refine wM ?_ ?_))<;>((try with_reducible intro K1 hK1);simp only [go_sem,↓reduceIte,reduceCtorEq,nA,nB,nC,nD,nE,nF,Int.reduceBEq,Int.reduceTMod,Int.reduceTDiv,Int.reduceMul,Int.reduceBNe,Int.reduceLT,Int.reduceLE,Int.reduceAdd,Int.reduceSub,Int.reduceNeg,decide_true,decide_false,Bool.true_and,Bool.false_and,Bool.and_true,Bool.and_false,Bool.or_false,Bool.or_true,Bool.true_or,Bool.false_or,Bool.not_true,Bool.not_false,true_implies,false_implies,true_and,and_true,Int.reduceToNat]<;>and_intros<;>(apply hK1;clear hK1 K1)))|(refine awp_cond (t:=_) rfl (fun hq=>?_) (fun hq=>?_)<;>first|(exact absurd hq (by decide))|(clear hq))|(refine awp_un 8 ?_)))
 simp only [Tryz.results75,go_sem,↓reduceIte,reduceCtorEq,nA,nB,nC,nD,nE,nF]
 exact ⟨_,_,Weak.refl _,Hp.le.refl _,p,k,rfl,upd_same _ _ _⟩
theorem c_full (o:Nat) (h:Hp) (ho:h.H o=some (.cells [nlS,.v (.int .i64 5000)])):ACalls Tryz.prog 77 [.ptr o 0] h (fun r h'=>r=.v (.bool false)∧h'=h):=by
 unfold nlS at *
 refine gE Tryz.func77 rfl (by kernel_rfl) 12 rfl fun c=>?_
 (repeat (first|refine gO rfl ?_|((first|refine gR ?_|((with_reducible refine xS ?_);refine uD 1 zM20 zPZE zPZP 13 rfl (by kernel_rfl) ?_))<;>((try with_reducible intro K1 hK1);simp only [go_sem,↓reduceIte,reduceCtorEq,nA,nB,nC,nD,nE,nF,Int.reduceBEq,Int.reduceTMod,Int.reduceTDiv,Int.reduceMul,Int.reduceBNe,Int.reduceLT,Int.reduceLE,Int.reduceAdd,Int.reduceSub,Int.reduceNeg,decide_true,decide_false,Bool.true_and,Bool.false_and,Bool.and_true,Bool.and_false,Bool.or_false,Bool.or_true,Bool.true_or,Bool.false_or,Bool.not_true,Bool.not_false,true_implies,false_implies,true_and,and_true,Int.reduceToNat,ho]<;>and_intros<;>(apply hK1;clear hK1 K1)))))
 simp only [Tryz.results77,go_sem,↓reduceIte,reduceCtorEq,nA,nB,nC,nD,nE,nF]
 exact ⟨_,_,Weak.refl _,Hp.le.refl _,rfl,rfl⟩
def rA (k:Nat):AV:=.row 2 [[.v (.string ⟨#[97]⟩),.v (.int .i64 5)]] (some k)
theorem c_full1 (o k:Nat) (h:Hp) (ho:h.H o=some (.cells [rA k,.v (.int .i64 5000)])):ACalls Tryz.prog 77 [.ptr o 0] h (fun r h'=>r=.v (.bool false)∧h'=h):=by
 unfold rA at *
 refine gE Tryz.func77 rfl (by kernel_rfl) 12 rfl fun c=>?_
 (repeat (first|refine gO rfl ?_|((first|refine gR ?_|((with_reducible refine xS ?_);refine uD 1 zM20 zPZE zPZP 13 rfl (by kernel_rfl) ?_))<;>((try with_reducible intro K1 hK1);simp only [go_sem,↓reduceIte,reduceCtorEq,nA,nB,nC,nD,nE,nF,Int.reduceBEq,Int.reduceTMod,Int.reduceTDiv,Int.reduceMul,Int.reduceBNe,Int.reduceLT,Int.reduceLE,Int.reduceAdd,Int.reduceSub,Int.reduceNeg,decide_true,decide_false,Bool.true_and,Bool.false_and,Bool.and_true,Bool.and_false,Bool.or_false,Bool.or_true,Bool.true_or,Bool.false_or,Bool.not_true,Bool.not_false,true_implies,false_implies,true_and,and_true,Int.reduceToNat,ho]<;>and_intros<;>(apply hK1;clear hK1 K1)))))
 simp only [Tryz.results77,go_sem,↓reduceIte,reduceCtorEq,nA,nB,nC,nD,nE,nF]
 exact ⟨_,_,Weak.refl _,Hp.le.refl _,rfl,rfl⟩
theorem c_pass (p o k:Nat) (h:Hp) (hp:h.H p=some (.cells (pA 0 k))) (ho:h.H o=some (.cells [nlS,.v (.int .i64 5000)])) (hpo:p≠o):ACalls Tryz.prog 76 [.ptr p 0,.ptr o 0] h (fun r h'=>r=.tup []∧∃ q,h'.H p=some (.cells (pA 1 k))∧h'.H o=some (.cells [rA q,.v (.int .i64 5000)])):=by
 have h1:=c_full o h ho
 have hop:o≠p:=fun e=>hpo e.symm
 unfold pA lA nlS at *
 simp only [List.cons_append,List.nil_append] at *
 refine gE Tryz.func76 rfl (by kernel_rfl) 114 rfl fun c=>?_
 (repeat (first|refine gO rfl ?_|((first|refine gR ?_|((with_reducible refine xR ?_);refine uE 7 zM20 zP10E zP10P 116 rfl (by kernel_rfl) ?_))<;>((try with_reducible intro K1 hK1);simp only [go_sem,↓reduceIte,reduceCtorEq,nA,nB,nC,nD,nE,nF,Int.reduceBEq,Int.reduceTMod,Int.reduceTDiv,Int.reduceMul,Int.reduceBNe,Int.reduceLT,Int.reduceLE,Int.reduceAdd,Int.reduceSub,Int.reduceNeg,decide_true,decide_false,Bool.true_and,Bool.false_and,Bool.and_true,Bool.and_false,Bool.or_false,Bool.or_true,Bool.true_or,Bool.false_or,Bool.not_true,Bool.not_false,true_implies,false_implies,true_and,and_true,Int.reduceToNat,hp,ho]<;>and_intros<;>first|(apply hK1;clear hK1 K1)|(intros;(decide))|skip))|(refine awp_cond (t:=_) rfl (fun hq=>?_) (fun hq=>?_)<;>first|(exact absurd hq (by decide))|(clear hq))|(refine (h1).mono ?_;rintro _ hz ⟨rfl,hh⟩;((refine hK1 _ ?_));clear hK1 K1;rw [hh];clear hh hz)))
 intro q hq
 refine hK1 _ ?_;clear hK1 K1
 (repeat (first|refine gO rfl ?_|((first|refine gR ?_|(with_reducible refine wM ?_ ?_))<;>((try with_reducible intro K1 hK1);simp only [go_sem,↓reduceIte,reduceCtorEq,nA,nB,nC,nD,nE,nF,Int.reduceBEq,Int.reduceTMod,Int.reduceTDiv,Int.reduceMul,Int.reduceBNe,Int.reduceLT,Int.reduceLE,Int.reduceAdd,Int.reduceSub,Int.reduceNeg,decide_true,decide_false,Bool.true_and,Bool.false_and,Bool.and_true,Bool.and_false,Bool.or_false,Bool.or_true,Bool.true_or,Bool.false_or,Bool.not_true,Bool.not_false,true_implies,false_implies,true_and,and_true,Int.reduceToNat,hp,ho,upd_other _ _ hpo,upd_other _ _ hop]<;>and_intros<;>(apply hK1;clear hK1 K1)))))
 simp only [Tryz.results76,go_sem,↓reduceIte,reduceCtorEq,nA,nB,nC,nD,nE,nF]
 refine ⟨_,_,Weak.refl _,Hp.le.refl _,rfl,q,upd_same _ _ _,?_⟩
 exact (upd_other _ _ hop).trans (upd_same _ _ _)
theorem c_ixP (f:Nat) (h:Hp):ACalls Tryz.prog 256 [nlS,.fn f []] h (fun r h'=>r=.v (.int .i64 (-1))∧h'=h):=by
 unfold nlS
 refine gE Tryz.func256 rfl (by kernel_rfl) 17 rfl fun c=>?_
 (repeat (first|refine gO rfl ?_|(refine gR fun K1 hK1=>?_;simp only [go_sem,↓reduceIte,reduceCtorEq,nA,nB,nC,nD,nE,nF,Int.reduceBEq,Int.reduceTMod,Int.reduceTDiv,Int.reduceMul,Int.reduceBNe,Int.reduceLT,Int.reduceLE,Int.reduceAdd,Int.reduceSub,Int.reduceNeg,decide_true,decide_false,Bool.true_and,Bool.false_and,Bool.and_true,Bool.and_false,Bool.or_false,Bool.or_true,Bool.true_or,Bool.false_or,Bool.not_true,Bool.not_false,true_implies,false_implies,true_and,and_true,Int.reduceToNat]<;>and_intros<;>(apply hK1;clear hK1 K1))|(refine awp_cond (t:=_) rfl (fun hq=>?_) (fun hq=>?_)<;>first|(exact absurd hq (by decide))|(clear hq))|(refine awp_un 8 ?_)))
 simp only [Tryz.results256,go_sem,↓reduceIte,reduceCtorEq,nA,nB,nC,nD,nE,nF]
 exact ⟨_,_,Weak.refl _,Hp.le.refl _,rfl,rfl⟩
theorem c_coP (f:Nat) (h:Hp):ACalls Tryz.prog 201 [nlS,.fn f []] h (fun r h'=>r=.v (.bool false)∧h'=h):=by
 have h1:=c_ixP f h
 unfold nlS at *
 refine gE Tryz.func201 rfl (by kernel_rfl) 7 rfl fun c=>?_
 (repeat (first|refine gO rfl ?_|(refine gR fun K1 hK1=>?_;simp only [go_sem,↓reduceIte,reduceCtorEq,nA,nB,nC,nD,nE,nF,Int.reduceBEq,Int.reduceTMod,Int.reduceTDiv,Int.reduceMul,Int.reduceBNe,Int.reduceLT,Int.reduceLE,Int.reduceAdd,Int.reduceSub,Int.reduceNeg,decide_true,decide_false,Bool.true_and,Bool.false_and,Bool.and_true,Bool.and_false,Bool.or_false,Bool.or_true,Bool.true_or,Bool.false_or,Bool.not_true,Bool.not_false,true_implies,false_implies,true_and,and_true,Int.reduceToNat]<;>and_intros<;>first|(apply hK1;clear hK1 K1)|skip)|(refine (h1).mono ?_;rintro _ hz ⟨rfl,hh⟩;((refine hK1 _ ?_));clear hK1 K1;rw [hh];clear hh hz)))
 simp only [Tryz.results201,go_sem,↓reduceIte,reduceCtorEq,nA,nB,nC,nD,nE,nF]
 exact ⟨_,_,Weak.refl _,Hp.le.refl _,rfl,rfl⟩
theorem c_begins (p k:Nat) (h:Hp) (hp:h.H p=some (.cells (pA 1 k))):ACalls Tryz.prog 142 [.ptr p 0] h (fun r h'=>r=.v (.bool true)∧h'=h):=by
 have h1:=fun f h=>c_coP f h
 unfold pA lA nlS at *
 simp only [List.cons_append,List.nil_append] at *
 refine gE Tryz.func142 rfl (by kernel_rfl) 43 rfl fun c=>?_
 (repeat (first|refine gO rfl ?_|((refine gR fun K1 hK1=>?_;simp only [go_sem,↓reduceIte,reduceCtorEq,nA,nB,nC,nD,nE,nF,Int.reduceBEq,Int.reduceTMod,Int.reduceTDiv,Int.reduceMul,Int.reduceBNe,Int.reduceLT,Int.reduceLE,Int.reduceAdd,Int.reduceSub,Int.reduceNeg,decide_true,decide_false,Bool.true_and,Bool.false_and,Bool.and_true,Bool.and_false,Bool.or_false,Bool.or_true,Bool.true_or,Bool.false_or,Bool.not_true,Bool.not_false,true_implies,false_implies,true_and,and_true,Int.reduceToNat,hp]<;>and_intros<;>first|(apply hK1;clear hK1 K1)|(intros;(omega))|skip))|(refine awp_cond (t:=_) rfl (fun hq=>?_) (fun hq=>?_)<;>first|(exact absurd hq (by decide))|(clear hq))|(refine (h1 _ _).mono ?_;rintro _ hz ⟨rfl,hh⟩;((refine ⟨rfl,hK1 _ ?_⟩));clear hK1 K1;rw [hh];clear hh hz)))
 simp only [Tryz.results142,go_sem,↓reduceIte,reduceCtorEq,nA,nB,nC,nD,nE,nF]
 exact ⟨_,_,Weak.refl _,Hp.le.refl _,rfl,rfl⟩
theorem c_roundOf (h:Hp):ACalls Tryz.prog 79 [.agg lA] h (fun r h'=>∃ q,r=.tup [.agg [.v (.int .i64 1),rA q,.v (.int .i64 5)],.v (.int .i64 0)]):=by
 have h1:=c_newPart h
 have h2:=fun p o k h=>c_pass p o k h
 have h3:=fun o k h=>c_full1 o k h
 have h4:=fun p k h=>c_begins p k h
 have hl:lA=[.v (.int .i64 1),.v (.string ⟨#[97]⟩),.v (.int .i64 5),.v (.int .i64 0),nlS,nlS]:=rfl
 unfold lA nlS at h1
 unfold lA nlS
 refine gE Tryz.func79 rfl (by kernel_rfl) 56 rfl fun c=>?_
 (repeat (first|refine gO rfl ?_|(refine gM zM26 fun K1 hK1=>?_;simp only [go_sem,↓reduceIte,reduceCtorEq,nA,nB,nC,nD,nE,nF,Int.reduceBEq,Int.reduceTMod,Int.reduceTDiv,Int.reduceMul,Int.reduceBNe,Int.reduceLT,Int.reduceLE,Int.reduceAdd,Int.reduceSub,Int.reduceNeg,decide_true,decide_false,Bool.true_and,Bool.false_and,Bool.and_true,Bool.and_false,Bool.or_false,Bool.or_true,Bool.true_or,Bool.false_or,Bool.not_true,Bool.not_false,true_implies,false_implies,true_and,and_true,Int.reduceToNat]<;>and_intros<;>first|(apply hK1;clear hK1 K1)|skip)))
 refine h1.mono ?_
 rintro _ ha ⟨p,k,rfl,hp⟩
 refine hK1 _ ?_;clear hK1 K1 h1
 (repeat ((refine gM zM26 fun K1 hK1=>?_;simp only [go_sem,↓reduceIte,reduceCtorEq,nA,nB,nC,nD,nE,nF,Int.reduceBEq,Int.reduceTMod,Int.reduceTDiv,Int.reduceMul,Int.reduceBNe,Int.reduceLT,Int.reduceLE,Int.reduceAdd,Int.reduceSub,Int.reduceNeg,decide_true,decide_false,Bool.true_and,Bool.false_and,Bool.and_true,Bool.and_false,Bool.or_false,Bool.or_true,Bool.true_or,Bool.false_or,Bool.not_true,Bool.not_false,true_implies,false_implies,true_and,and_true,Int.reduceToNat]<;>and_intros)))
 intro o ho
 refine hK1 _ ?_;clear hK1 K1
 have hpo:p≠o:=by rintro rfl;rw [hp] at ho;cases ho
 have h5:=h2 p o k ⟨upd ha.H o (some (.cells [nlS,.v (.int .i64 5000)])),ha.T⟩ ((upd_other _ _ hpo).trans hp) (upd_same _ _ _) hpo
 unfold nlS at h5
 (repeat (first|refine gO rfl ?_|(refine gM zM26 fun K1 hK1=>?_;simp only [go_sem,↓reduceIte,reduceCtorEq,nA,nB,nC,nD,nE,nF,Int.reduceBEq,Int.reduceTMod,Int.reduceTDiv,Int.reduceMul,Int.reduceBNe,Int.reduceLT,Int.reduceLE,Int.reduceAdd,Int.reduceSub,Int.reduceNeg,decide_true,decide_false,Bool.true_and,Bool.false_and,Bool.and_true,Bool.and_false,Bool.or_false,Bool.or_true,Bool.true_or,Bool.false_or,Bool.not_true,Bool.not_false,true_implies,false_implies,true_and,and_true,Int.reduceToNat]<;>and_intros<;>first|(apply hK1;clear hK1 K1)|skip)|(refine awp_cond (t:=_) rfl (fun hq=>?_) (fun hq=>?_)<;>first|(exact absurd hq (by decide))|(clear hq))|(refine awp_un 8 ?_)|(refine ⟨AV.v (.bool true),rfl,hK1 _ ?_⟩;clear hK1 K1)))
 refine h5.mono ?_
 rintro _ hb ⟨rfl,q,hpb,hob⟩
 refine hK1 _ ?_;clear hK1 K1 h5
 have h6:=h3 o q hb hob
 have h7:=h4 p k hb hpb
 unfold nlS rA at *
 (repeat (first|refine gO rfl ?_|(refine gM zM26 fun K1 hK1=>?_;simp only [go_sem,↓reduceIte,reduceCtorEq,nA,nB,nC,nD,nE,nF,Int.reduceBEq,Int.reduceTMod,Int.reduceTDiv,Int.reduceMul,Int.reduceBNe,Int.reduceLT,Int.reduceLE,Int.reduceAdd,Int.reduceSub,Int.reduceNeg,decide_true,decide_false,Bool.true_and,Bool.false_and,Bool.and_true,Bool.and_false,Bool.or_false,Bool.or_true,Bool.true_or,Bool.false_or,Bool.not_true,Bool.not_false,true_implies,false_implies,true_and,and_true,Int.reduceToNat,hob]<;>and_intros<;>first|(apply hK1;clear hK1 K1)|(intros;(omega))|skip)|(refine awp_cond (t:=_) rfl (fun hq=>?_) (fun hq=>?_)<;>first|(exact absurd hq (by decide))|(clear hq))|(refine awp_un 8 ?_)|(refine (h6).mono ?_;rintro _ hz ⟨rfl,hh⟩;((refine hK1 _ ?_));clear hK1 K1;rw [hh];clear hh hz)|(refine (h7).mono ?_;rintro _ hz ⟨rfl,hh⟩;((refine ⟨rfl,hK1 _ ?_⟩));clear hK1 K1;rw [hh];clear hh hz)))
 simp only [Tryz.results79,go_sem,↓reduceIte,reduceCtorEq,nA,nB,nC,nD,nE,nF]
 exact ⟨_,_,Weak.refl _,Hp.le.refl _,q,rfl⟩
theorem c_checked (h:Hp):ACalls Tryz.prog 70 [.agg lA] h (fun r h'=>∃ q,r=.tup [.agg [.v (.int .i64 1),rA q,.v (.int .i64 5)],.v (.int .i64 0)]):=by
 have h1:=c_check h
 have h2:=fun h=>c_roundOf h
 unfold lA nlS rA at *
 refine gE Tryz.func70 rfl (by kernel_rfl) 14 rfl fun c=>?_
 (repeat (first|refine gO rfl ?_|(refine gM zM27 fun K1 hK1=>?_;simp only [go_sem,↓reduceIte,reduceCtorEq,nA,nB,nC,nD,nE,nF,Int.reduceBEq,Int.reduceTMod,Int.reduceTDiv,Int.reduceMul,Int.reduceBNe,Int.reduceLT,Int.reduceLE,Int.reduceAdd,Int.reduceSub,Int.reduceNeg,decide_true,decide_false,Bool.true_and,Bool.false_and,Bool.and_true,Bool.and_false,Bool.or_false,Bool.or_true,Bool.true_or,Bool.false_or,Bool.not_true,Bool.not_false,true_implies,false_implies,true_and,and_true,Int.reduceToNat]<;>and_intros<;>first|(apply hK1;clear hK1 K1)|skip)))
 refine h1.mono ?_
 rintro _ ha rfl
 refine hK1 _ ?_;clear hK1 K1 h1
 (repeat (first|refine gO rfl ?_|(refine gM zM27 fun K1 hK1=>?_;simp only [go_sem,↓reduceIte,reduceCtorEq,nA,nB,nC,nD,nE,nF,Int.reduceBEq,Int.reduceTMod,Int.reduceTDiv,Int.reduceMul,Int.reduceBNe,Int.reduceLT,Int.reduceLE,Int.reduceAdd,Int.reduceSub,Int.reduceNeg,decide_true,decide_false,Bool.true_and,Bool.false_and,Bool.and_true,Bool.and_false,Bool.or_false,Bool.or_true,Bool.true_or,Bool.false_or,Bool.not_true,Bool.not_false,true_implies,false_implies,true_and,and_true,Int.reduceToNat]<;>and_intros<;>first|(apply hK1;clear hK1 K1)|skip)|(refine awp_cond (t:=_) rfl (fun hq=>?_) (fun hq=>?_)<;>first|(exact absurd hq (by decide))|(clear hq))))
 refine (h2 _).mono ?_
 rintro _ hb ⟨q,rfl⟩
 refine hK1 _ ?_;clear hK1 K1 h2
 (repeat (first|refine gO rfl ?_|(refine gM zM27 fun K1 hK1=>?_;simp only [go_sem,↓reduceIte,reduceCtorEq,nA,nB,nC,nD,nE,nF,Int.reduceBEq,Int.reduceTMod,Int.reduceTDiv,Int.reduceMul,Int.reduceBNe,Int.reduceLT,Int.reduceLE,Int.reduceAdd,Int.reduceSub,Int.reduceNeg,decide_true,decide_false,Bool.true_and,Bool.false_and,Bool.and_true,Bool.and_false,Bool.or_false,Bool.or_true,Bool.true_or,Bool.false_or,Bool.not_true,Bool.not_false,true_implies,false_implies,true_and,and_true,Int.reduceToNat]<;>and_intros<;>(apply hK1;clear hK1 K1))))
 simp only [Tryz.results70,go_sem,↓reduceIte,reduceCtorEq,nA,nB,nC,nD,nE,nF]
 exact ⟨_,_,Weak.refl _,Hp.le.refl _,q,rfl⟩
theorem g_round1 (h:Hp):ACalls Tryz.prog 15 [.agg lA] h (fun r h'=>r=.tup [.v (.int .i64 1),.v (.int .i64 1),.v (.int .i64 5),.v (.int .i64 0)]):=by
 have h2:=fun h=>c_checked h
 unfold lA nlS rA at *
 refine gE Tryz.func15 rfl (by kernel_rfl) 21 rfl fun c=>?_
 (repeat (first|refine gO rfl ?_|((refine gM zM23 fun K1 hK1=>?_;simp only [go_sem,↓reduceIte,reduceCtorEq,nA,nB,nC,nD,nE,nF,Int.reduceBEq,Int.reduceTMod,Int.reduceTDiv,Int.reduceMul,Int.reduceBNe,Int.reduceLT,Int.reduceLE,Int.reduceAdd,Int.reduceSub,Int.reduceNeg,decide_true,decide_false,Bool.true_and,Bool.false_and,Bool.and_true,Bool.and_false,Bool.or_false,Bool.or_true,Bool.true_or,Bool.false_or,Bool.not_true,Bool.not_false,true_implies,false_implies,true_and,and_true,Int.reduceToNat]<;>and_intros<;>first|(apply hK1;clear hK1 K1)|skip))))
 refine (h2 _).mono ?_
 rintro _ hb ⟨q,rfl⟩
 refine hK1 _ ?_;clear hK1 K1 h2
 (repeat (first|refine gO rfl ?_|((first|refine gM zM23 ?_|((with_reducible refine xS ?_);refine uD 4 zM23 zP13E zP13P 22 rfl (by kernel_rfl) ?_))<;>((try with_reducible intro K1 hK1);simp only [go_sem,↓reduceIte,reduceCtorEq,nA,nB,nC,nD,nE,nF,Int.reduceBEq,Int.reduceTMod,Int.reduceTDiv,Int.reduceMul,Int.reduceBNe,Int.reduceLT,Int.reduceLE,Int.reduceAdd,Int.reduceSub,Int.reduceNeg,decide_true,decide_false,Bool.true_and,Bool.false_and,Bool.and_true,Bool.and_false,Bool.or_false,Bool.or_true,Bool.true_or,Bool.false_or,Bool.not_true,Bool.not_false,true_implies,false_implies,true_and,and_true,Int.reduceToNat]<;>and_intros<;>(apply hK1;clear hK1 K1)))|(refine awp_cond (t:=_) rfl (fun hq=>?_) (fun hq=>?_)<;>first|(exact absurd hq (by decide))|(clear hq))))
 simp only [Tryz.results15,go_sem,↓reduceIte,reduceCtorEq,nA,nB,nC,nD,nE,nF]
 exact ⟨_,_,Weak.refl _,Hp.le.refl _,rfl⟩
abbrev zP14E:List Nat:=[0,1,2,3,4,5,6,7,8,9,10,11,12,13,14]
abbrev zP14P:List (Nat × List Nat × List Nat):=[]
attribute [go_sem] zP14E zP14P
def kA:AV:=.row 3 [[.v (.int .i64 0),.v (.int .i64 10),.v (.int .i64 5)]] none
theorem c_checkLinks (h:Hp):ACalls Tryz.prog 101 [kA] h (fun r h'=>r=.v (.int .i64 0)):=by
 have h1:=fun h=>a_outside 5 1 1000000 h
 unfold kA
 refine gE Tryz.func101 rfl (by kernel_rfl) 54 rfl fun c=>?_
 (repeat (first|refine gO rfl ?_|((first|refine gM zM28 ?_|((with_reducible refine xS ?_);refine uD 8 zM28 zP14E zP14P 55 rfl (by kernel_rfl) ?_))<;>((try with_reducible intro K1 hK1);simp only [go_sem,↓reduceIte,reduceCtorEq,nA,nB,nC,nD,nE,nF,Int.reduceBEq,Int.reduceTMod,Int.reduceTDiv,Int.reduceMul,Int.reduceBNe,Int.reduceLT,Int.reduceLE,Int.reduceAdd,Int.reduceSub,Int.reduceNeg,decide_true,decide_false,Bool.true_and,Bool.false_and,Bool.and_true,Bool.and_false,Bool.or_false,Bool.or_true,Bool.true_or,Bool.false_or,Bool.not_true,Bool.not_false,true_implies,false_implies,true_and,and_true,Int.reduceToNat]<;>and_intros<;>first|(apply hK1;clear hK1 K1)|(intros;(omega))|skip))|(refine awp_cond (t:=_) rfl (fun hq=>?_) (fun hq=>?_)<;>first|(exact absurd hq (by decide))|(clear hq))|(refine awp_un 8 ?_)|(refine (h1 _).mono ?_;rintro _ hz ⟨rfl,hh⟩;((refine ⟨rfl,hK1 _ ?_⟩));clear hK1 K1;rw [hh];clear hh hz)))
 simp only [Tryz.results101,go_sem,↓reduceIte,reduceCtorEq,nA,nB,nC,nD,nE,nF]
 exact ⟨_,_,Weak.refl _,Hp.le.refl _,rfl⟩
theorem c_isMoment (h:Hp):ACalls Tryz.prog 102 [.v (.int .i64 3)] h (fun r h'=>r=.v (.bool true)∧h'=h):=by
 refine gE Tryz.func102 rfl (by kernel_rfl) 8 rfl fun c=>?_
 (repeat (first|refine gO rfl ?_|(refine gR fun K1 hK1=>?_;simp only [go_sem,↓reduceIte,reduceCtorEq,nA,nB,nC,nD,nE,nF,Int.reduceBEq,Int.reduceTMod,Int.reduceTDiv,Int.reduceMul,Int.reduceBNe,Int.reduceLT,Int.reduceLE,Int.reduceAdd,Int.reduceSub,Int.reduceNeg,decide_true,decide_false,Bool.true_and,Bool.false_and,Bool.and_true,Bool.and_false,Bool.or_false,Bool.or_true,Bool.true_or,Bool.false_or,Bool.not_true,Bool.not_false,true_implies,false_implies,true_and,and_true,Int.reduceToNat]<;>and_intros<;>(apply hK1;clear hK1 K1))))
 simp only [Tryz.results102,go_sem,↓reduceIte,reduceCtorEq,nA,nB,nC,nD,nE,nF]
 exact ⟨_,_,Weak.refl _,Hp.le.refl _,rfl,rfl⟩
theorem c_done (h:Hp):ACalls Tryz.prog 103 [kA,.v (.int .i64 3),.v (.int .i64 12)] h (fun r h'=>r=.tup [.v (.int .i64 6),.v (.bool true)]):=by
 unfold kA
 refine gE Tryz.func103 rfl (by kernel_rfl) 49 rfl fun c=>?_
 (repeat (first|refine gO rfl ?_|(refine gM zM29 fun K1 hK1=>?_;simp only [go_sem,↓reduceIte,reduceCtorEq,nA,nB,nC,nD,nE,nF,Int.reduceBEq,Int.reduceTMod,Int.reduceTDiv,Int.reduceMul,Int.reduceBNe,Int.reduceLT,Int.reduceLE,Int.reduceAdd,Int.reduceSub,Int.reduceNeg,decide_true,decide_false,Bool.true_and,Bool.false_and,Bool.and_true,Bool.and_false,Bool.or_false,Bool.or_true,Bool.true_or,Bool.false_or,Bool.not_true,Bool.not_false,true_implies,false_implies,true_and,and_true,Int.reduceToNat]<;>and_intros<;>first|(apply hK1;clear hK1 K1)|(intros;(omega)))|(refine awp_cond (t:=_) rfl (fun hq=>?_) (fun hq=>?_)<;>first|(exact absurd hq (by decide))|(clear hq))|(refine awp_un 8 ?_)))
 simp only [Tryz.results103,go_sem,↓reduceIte,reduceCtorEq,nA,nB,nC,nD,nE,nF]
 exact ⟨_,_,Weak.refl _,Hp.le.refl _,rfl⟩
theorem g_done1 (h:Hp):ACalls Tryz.prog 39 [kA,.v (.int .i64 3),.v (.int .i64 12)] h (fun r h'=>r=.tup [.v (.int .i64 6),.v (.bool true),.v (.int .i64 0)]):=by
 have h1:=c_checkLinks h
 have h2:=fun h=>c_isMoment h
 have h3:=fun h=>a_outside 12 0 1000000000000 h
 have h4:=fun h=>c_done h
 unfold kA at *
 refine gE Tryz.func39 rfl (by kernel_rfl) 30 rfl fun c=>?_
 (repeat (first|refine gO rfl ?_|(refine gR fun K1 hK1=>?_;simp only [go_sem,↓reduceIte,reduceCtorEq,nA,nB,nC,nD,nE,nF,Int.reduceBEq,Int.reduceTMod,Int.reduceTDiv,Int.reduceMul,Int.reduceBNe,Int.reduceLT,Int.reduceLE,Int.reduceAdd,Int.reduceSub,Int.reduceNeg,decide_true,decide_false,Bool.true_and,Bool.false_and,Bool.and_true,Bool.and_false,Bool.or_false,Bool.or_true,Bool.true_or,Bool.false_or,Bool.not_true,Bool.not_false,true_implies,false_implies,true_and,and_true,Int.reduceToNat]<;>and_intros<;>first|(apply hK1;clear hK1 K1)|skip)))
 refine h1.mono ?_
 rintro _ ha rfl
 refine hK1 _ ?_;clear hK1 K1 h1
 (repeat (first|refine gO rfl ?_|(refine gR fun K1 hK1=>?_;simp only [go_sem,↓reduceIte,reduceCtorEq,nA,nB,nC,nD,nE,nF,Int.reduceBEq,Int.reduceTMod,Int.reduceTDiv,Int.reduceMul,Int.reduceBNe,Int.reduceLT,Int.reduceLE,Int.reduceAdd,Int.reduceSub,Int.reduceNeg,decide_true,decide_false,Bool.true_and,Bool.false_and,Bool.and_true,Bool.and_false,Bool.or_false,Bool.or_true,Bool.true_or,Bool.false_or,Bool.not_true,Bool.not_false,true_implies,false_implies,true_and,and_true,Int.reduceToNat]<;>and_intros<;>first|(apply hK1;clear hK1 K1)|skip)|(refine awp_cond (t:=_) rfl (fun hq=>?_) (fun hq=>?_)<;>first|(exact absurd hq (by decide))|(clear hq))|(refine (h2 _).mono ?_;rintro _ hz ⟨rfl,hh⟩;((refine hK1 _ ?_));clear hK1 K1;rw [hh];clear hh hz)|(refine (h3 _).mono ?_;rintro _ hz ⟨rfl,hh⟩;((refine ⟨rfl,hK1 _ ?_⟩));clear hK1 K1;rw [hh];clear hh hz)))
 refine (h4 _).mono ?_
 rintro _ hb rfl
 refine hK1 _ ?_;clear hK1 K1
 (repeat (first|refine gO rfl ?_|(refine gR fun K1 hK1=>?_;simp only [go_sem,↓reduceIte,reduceCtorEq,nA,nB,nC,nD,nE,nF,Int.reduceBEq,Int.reduceTMod,Int.reduceTDiv,Int.reduceMul,Int.reduceBNe,Int.reduceLT,Int.reduceLE,Int.reduceAdd,Int.reduceSub,Int.reduceNeg,decide_true,decide_false,Bool.true_and,Bool.false_and,Bool.and_true,Bool.and_false,Bool.or_false,Bool.or_true,Bool.true_or,Bool.false_or,Bool.not_true,Bool.not_false,true_implies,false_implies,true_and,and_true,Int.reduceToNat]<;>and_intros<;>(apply hK1;clear hK1 K1))))
 simp only [Tryz.results39,go_sem,↓reduceIte,reduceCtorEq,nA,nB,nC,nD,nE,nF]
 exact ⟨_,_,Weak.refl _,Hp.le.refl _,rfl⟩
theorem g_ready (h:Hp):ACalls Tryz.prog 16 [] h (fun r _=>r=.v (.bool true)):=by
 have h1:=fun h=>g_miss5 h
 have h2:=fun h=>g_round1 h
 have h3:=fun h=>g_done1 h
 have h4:=fun h=>g_bind1 h
 have e5:(s5 == ⟨#[53]⟩)=true:=by decide
 unfold lA nlS at h2
 unfold kA at h3
 rw [fC_eq] at h4
 unfold sT at h4
 refine gE Tryz.func16 rfl (by kernel_rfl) 75 rfl fun c=>?_
 (repeat (first|refine gO rfl ?_|(refine gR fun K1 hK1=>?_;simp only [go_sem,↓reduceIte,reduceCtorEq,nA,nB,nC,nD,nE,nF,Int.reduceBEq,Int.reduceTMod,Int.reduceTDiv,Int.reduceMul,Int.reduceBNe,Int.reduceLT,Int.reduceLE,Int.reduceAdd,Int.reduceSub,Int.reduceNeg,decide_true,decide_false,Bool.true_and,Bool.false_and,Bool.and_true,Bool.and_false,Bool.or_false,Bool.or_true,Bool.true_or,Bool.false_or,Bool.not_true,Bool.not_false,true_implies,false_implies,true_and,and_true,Int.reduceToNat]<;>and_intros<;>first|(apply hK1;clear hK1 K1)|(intros;(decide))|skip)))
 refine (h1 _).mono ?_
 rintro _ ha rfl
 refine hK1 _ ?_;clear hK1 K1 h1
 (repeat (first|refine gO rfl ?_|(refine gR fun K1 hK1=>?_;simp only [go_sem,↓reduceIte,reduceCtorEq,nA,nB,nC,nD,nE,nF,Int.reduceBEq,Int.reduceTMod,Int.reduceTDiv,Int.reduceMul,Int.reduceBNe,Int.reduceLT,Int.reduceLE,Int.reduceAdd,Int.reduceSub,Int.reduceNeg,decide_true,decide_false,Bool.true_and,Bool.false_and,Bool.and_true,Bool.and_false,Bool.or_false,Bool.or_true,Bool.true_or,Bool.false_or,Bool.not_true,Bool.not_false,true_implies,false_implies,true_and,and_true,Int.reduceToNat]<;>and_intros<;>first|(apply hK1;clear hK1 K1)|skip)))
 refine (h2 _).mono ?_
 rintro _ hb rfl
 refine hK1 _ ?_;clear hK1 K1 h2
 (repeat (first|refine gO rfl ?_|(refine gR fun K1 hK1=>?_;simp only [go_sem,↓reduceIte,reduceCtorEq,nA,nB,nC,nD,nE,nF,Int.reduceBEq,Int.reduceTMod,Int.reduceTDiv,Int.reduceMul,Int.reduceBNe,Int.reduceLT,Int.reduceLE,Int.reduceAdd,Int.reduceSub,Int.reduceNeg,decide_true,decide_false,Bool.true_and,Bool.false_and,Bool.and_true,Bool.and_false,Bool.or_false,Bool.or_true,Bool.true_or,Bool.false_or,Bool.not_true,Bool.not_false,true_implies,false_implies,true_and,and_true,Int.reduceToNat]<;>and_intros<;>first|(apply hK1;clear hK1 K1)|(intros;(decide))|skip)))
 refine (h3 _).mono ?_
 rintro _ hd rfl
 refine hK1 _ ?_;clear hK1 K1 h3
 (repeat (first|refine gO rfl ?_|(refine gR fun K1 hK1=>?_;simp only [go_sem,↓reduceIte,reduceCtorEq,nA,nB,nC,nD,nE,nF,Int.reduceBEq,Int.reduceTMod,Int.reduceTDiv,Int.reduceMul,Int.reduceBNe,Int.reduceLT,Int.reduceLE,Int.reduceAdd,Int.reduceSub,Int.reduceNeg,decide_true,decide_false,Bool.true_and,Bool.false_and,Bool.and_true,Bool.and_false,Bool.or_false,Bool.or_true,Bool.true_or,Bool.false_or,Bool.not_true,Bool.not_false,true_implies,false_implies,true_and,and_true,Int.reduceToNat]<;>and_intros<;>first|(apply hK1;clear hK1 K1)|(intros;(decide))|skip)))
 refine (h4 _).mono ?_
 rintro _ he rfl
 refine hK1 _ ?_;clear hK1 K1 h4
 (repeat (first|refine gO rfl ?_|(refine gR fun K1 hK1=>?_;simp only [go_sem,↓reduceIte,reduceCtorEq,nA,nB,nC,nD,nE,nF,Int.reduceBEq,Int.reduceTMod,Int.reduceTDiv,Int.reduceMul,Int.reduceBNe,Int.reduceLT,Int.reduceLE,Int.reduceAdd,Int.reduceSub,Int.reduceNeg,decide_true,decide_false,Bool.true_and,Bool.false_and,Bool.and_true,Bool.and_false,Bool.or_false,Bool.or_true,Bool.true_or,Bool.false_or,Bool.not_true,Bool.not_false,true_implies,false_implies,true_and,and_true,Int.reduceToNat,e5]<;>and_intros<;>(apply hK1;clear hK1 K1))))
 simp only [Tryz.results16,go_sem,↓reduceIte,reduceCtorEq,nA,nB,nC,nD,nE,nF]
 exact ⟨_,_,Weak.refl _,Hp.le.refl _,rfl⟩
abbrev zP15E:List Nat:=[0,1,2,3,4,5,6,7,8,9,10,11]
abbrev zP15P:List (Nat × List Nat × List Nat):=[]
attribute [go_sem] zP15E zP15P
def formB (kind:Int) (item:ByteArray) (long many:Int) (nk ns:Int):Bool :=
 (kind == 1 && nk != 0) || (kind == 5 && nk != 1) || (kind != 1 && nk == 0) || (kind == 4 && ns != nk) || (kind != 4 && ns != 0) || (kind != 1 && (item != ⟨#[]⟩ || long != 0)) || (kind != 5 && many != 0)
theorem g_form (kind:Int) (item:ByteArray) (long many:Int) (kids:List LT) (shares:List Int) (h:Hp) (hk:kids.length≤1000) (hs:shares.length≤1000) :
  ACalls Tryz.prog 199 [.agg (encL (.mk kind item long many kids shares))] h (fun r h'=>r=.v (.bool (formB kind item long many kids.length shares.length))∧h'=h):=by
 rw [encL_eq]
 have key:∀ b1 b4 b5:Bool,(kind == 1)=b1→(kind == 4)=b4→(kind == 5)=b5→(b1 && b4)=false→(b1 && b5)=false→(b4 && b5)=false →
   ACalls Tryz.prog 199 [.agg [.v (.int .i64 kind),.v (.string item),.v (.int .i64 long),.v (.int .i64 many),.row 6 (kids.map encL) none,.row 1 (shares.map encI) none]] h (fun r h'=>r=.v (.bool (formB kind item long many kids.length shares.length))∧h'=h):=by
  intro b1 b4 b5 e1 e4 e5
  cases b1<;>cases b4<;>cases b5<;>intro f1 f2 f3<;>first|(cases f1;done)|(cases f2;done)|(cases f3;done)|skip
  all_goals
   refine gE Tryz.func199 rfl (by kernel_rfl) 77 rfl fun c=>?_
   (repeat' (first|refine gO rfl ?_|((first|((with_reducible refine yS ?_);refine awp_keep zK20 100 (kS ?_))|((with_reducible refine yR ?_);refine awp_keep zK20 100 (kR ?_))|refine gR ?_|(with_reducible refine wM ?_ ?_)|((with_reducible refine xS ?_);refine awp_keep zK20 100 (uD 1 zM20 zP15E zP15P 78 rfl (by kernel_rfl) ?_)))<;>((try with_reducible intro K1 hK1);simp only [go_sem,↓reduceIte,reduceCtorEq,nA,nB,nC,nD,nE,nF,e1,e4,e5,nG,nH,nI]<;>and_intros<;>first|(apply hK1;clear hK1 K1)|(intros;first|omega|decide|(simp_all<;>omega))|skip))|(refine awp_cond (t:=_) rfl (fun hcnd=>?_) (fun hcnd=>?_)<;>first|(cases hcnd;done)|(simp only [hcnd])|skip)))
  all_goals simp only [Tryz.results199,go_sem,↓reduceIte,reduceCtorEq,nA,nB,nC,nD,nE,nF]
  all_goals exact ⟨_,_,Weak.refl _,Hp.le.refl _,by clear hs hk c;simp only [formB,bne,Bool.not_eq_true',Bool.not_eq_false'] at *;simp only [*,Bool.not_true,Bool.not_false,Bool.false_and,Bool.true_and,Bool.and_false,Bool.false_or,Bool.true_or,Bool.or_true,Bool.or_false],rfl⟩
 exact key _ _ _ rfl rfl rfl (by simp;omega) (by simp;omega) (by simp;omega)
def manyF:LT→Int
 | .mk _ _ _ _ kids _=>(kids.map manyF).sum+1
def deepF:LT→Int
 | .mk _ _ _ _ kids _=>(kids.map deepF).foldl max 0+1
theorem manyF_eq (kind:Int) (item:ByteArray) (long many:Int) (kids:List LT) (shares:List Int):manyF (.mk kind item long many kids shares)=(kids.map manyF).sum+1:=by rw [manyF]
theorem deepF_eq (kind:Int) (item:ByteArray) (long many:Int) (kids:List LT) (shares:List Int):deepF (.mk kind item long many kids shares)=(kids.map deepF).foldl max 0+1:=by rw [deepF]
theorem sum_bd {α:Type} (f:α→Int) (b:Int) (hb:0≤b):∀ (l:List α),(∀ x∈l,0≤f x∧f x≤b)→0≤(l.map f).sum∧(l.map f).sum≤l.length * b
 | [],_=>by simp
 | x :: l,h=>by
  have h1:=h x (by simp)
  have h2:=sum_bd f b hb l fun y hy=>h y (by simp [hy])
  have e:((l.length+1:Nat):Int) * b=l.length * b+b:=by rw [show ((l.length+1:Nat):Int)=l.length+1 by omega,Int.add_mul,Int.one_mul]
  simp only [List.map_cons,List.sum_cons,List.length_cons,e]
  omega
theorem max_bd {α:Type} (f:α→Int) (b:Int):∀ (l:List α) (a:Int),a≤b→(∀ x∈l,f x≤b)→a≤(l.map f).foldl max a∧(l.map f).foldl max a≤b
 | [],a,ha,_=>by simp;omega
 | x :: l,a,ha,h=>by
  have h1:=h x (by simp)
  have h2:=max_bd f b l (max a (f x)) (by omega) fun y hy=>h y (by simp [hy])
  simp only [List.map_cons,List.foldl_cons]
  omega
def KC:Nat→LT→Prop
 | 0,_=>False
 | d+1,.mk kind item long many kids shares=>NB kind∧item.size≤2∧NB long∧NB many∧kids.length≤1000∧shares.length≤1000∧(∀ x∈shares,NB x)∧∀ k∈kids,KC d k
theorem KC.mono:∀ {d e:Nat} {t:LT},KC d t→d≤e→KC e t
 | 0,_,_,h,_=>h.elim
 | d+1,0,_,_,h=>by omega
 | d+1,e+1,.mk ..,h,hd=>⟨h.1,h.2.1,h.2.2.1,h.2.2.2.1,h.2.2.2.2.1,h.2.2.2.2.2.1,h.2.2.2.2.2.2.1,fun k hk=>(h.2.2.2.2.2.2.2 k hk).mono (by omega)⟩
theorem LC.kc:∀ {d:Nat} {t:LT},LC d t→KC d t
 | 0,_,h=>h.elim
 | d+1,.mk ..,h=>⟨h.1,h.2.1,h.2.2.1,h.2.2.2.1,by have:=h.2.2.2.2.1;omega,by have:=h.2.2.2.2.2.1;omega,h.2.2.2.2.2.2.1,fun k hk=>(h.2.2.2.2.2.2.2 k hk).kc⟩
theorem size_small:∀ (d:Nat) (t:LT),LC d t→1≤manyF t∧manyF t≤4 ^ d
 | 0,_,h=>h.elim
 | d+1,.mk kind item long many kids shares,h=>by
  obtain ⟨_,_,_,_,hk,_,_,hkk⟩:=h
  have h1:=sum_bd manyF (4 ^ d) (Int.le_of_lt (Int.pow_pos (by decide))) kids fun x hx=>by have:=size_small d x (hkk x hx);omega
  have h3:(kids.length:Int) * 4 ^ d≤3 * 4 ^ d:=Int.mul_le_mul_of_nonneg_right (by omega) (Int.le_of_lt (Int.pow_pos (by decide)))
  have h4:(1:Int)≤4 ^ d:=Int.pow_pos (by decide)
  rw [manyF_eq]
  refine ⟨by omega,?_⟩
  rw [Int.pow_succ];omega
theorem size_small23 {t:LT} (h:LC 23 t):manyF t≤1000000000000000∧23≤1000:=by
 have:=(size_small 23 t h).2
 have e:(4:Int) ^ 23=70368744177664:=by decide
 omega
theorem size_bd:∀ (d:Nat) (t:LT),KC d t→1≤manyF t∧1≤deepF t∧deepF t≤d
 | 0,_,h=>h.elim
 | d+1,.mk kind item long many kids shares,h=>by
  obtain ⟨_,_,_,_,hk,_,_,hkk⟩:=h
  have h1:∀ l:List LT,(∀ x∈l,KC d x)→0≤(l.map manyF).sum:=fun l=>by
   induction l with
   | nil=>simp
   | cons x l ih=>intro h;have h1:=size_bd d x (h x (by simp));have h2:=ih fun y hy=>h y (by simp [hy]);simp only [List.map_cons,List.sum_cons];omega
  have h0:=h1 kids hkk
  have h2:=max_bd deepF d kids 0 (by omega) fun x hx=>(size_bd d x (hkk x hx)).2.2
  rw [manyF_eq,deepF_eq]
  omega
theorem many_take {kids:List LT} (hp:∀ x∈kids,0≤manyF x) (j:Nat):0≤((kids.take j).map manyF).sum∧((kids.take j).map manyF).sum≤(kids.map manyF).sum:=by
 have e:(kids.map manyF).sum=((kids.take j).map manyF).sum+((kids.drop j).map manyF).sum:=by rw [← List.sum_append,← List.map_append,List.take_append_drop]
 have:∀ l:List LT,(∀ x∈l,0≤manyF x)→0≤(l.map manyF).sum:=fun l=>by
  induction l with
  | nil=>simp
  | cons x l ih=>intro h;have h1:=h x (by simp);have h2:=ih fun y hy=>h y (by simp [hy]);simp only [List.map_cons,List.sum_cons];omega
 have a:=this (kids.drop j) fun x hx=>hp x (List.mem_of_mem_drop hx)
 have b:=this (kids.take j) fun x hx=>hp x (List.mem_of_mem_take hx)
 omega
theorem many_kid {kids:List LT} (hp:∀ x∈kids,0≤manyF x) {k:LT} (hk:k∈kids):manyF k≤(kids.map manyF).sum:=by
 induction kids with
 | nil=>cases hk
 | cons x l ih =>
  have h2:=many_take (kids:=l) (fun y hy=>hp y (by simp [hy])) 0
  have h1:=hp x (by simp)
  simp only [List.take_zero,List.map_nil,List.sum_nil] at h2
  simp only [List.map_cons,List.sum_cons]
  rcases List.mem_cons.1 hk with rfl|h
  ·omega
  ·have:=ih (fun y hy=>hp y (by simp [hy])) h;omega
theorem take_succ_map {α:Type} {β:Type} [Inhabited α] (f:α→β) (l:List α) (j:Nat) (h:j < l.length):(l.take (j+1)).map f=(l.take j).map f++[f (l.getD j default)]:=by
 rw [List.take_add_one,List.getD_eq_getElem?_getD,List.getElem?_eq_getElem h];simp only [List.map_append,Option.toList_some,List.map_cons,List.map_nil,Option.getD_some]
theorem getD_mem' {α:Type} (l:List α) (j:Nat) (d:α) (h:j < l.length):l.getD j d∈l:=by
 rw [List.getD_eq_getElem?_getD,List.getElem?_eq_getElem h];exact List.getElem_mem _
abbrev zP16E:List Nat:=[0,1,2,3,4,5,6,7,8,9,10]
abbrev zP16P:List (Nat × List Nat × List Nat):=[]
attribute [go_sem] zP16E zP16P
theorem a_in (x lo hi:Int) (h:Hp):ACalls Tryz.prog 91 [.v (.int .i64 x),.v (.int .i64 lo),.v (.int .i64 hi)] h (fun r h'=>r=.v (.bool (decide (lo≤x) && decide (x≤hi)))∧h'=h):=by
 refine gE Tryz.func91 rfl (by kernel_rfl) 12 rfl fun c=>?_
 (repeat (first|refine gO rfl ?_|(refine gR fun K1 hK1=>?_;simp only [go_sem,↓reduceIte,reduceCtorEq,nA,nB,nC,nD,nE,nF]<;>and_intros<;>(apply hK1;clear hK1 K1))))
 simp only [Tryz.results91,go_sem,↓reduceIte,reduceCtorEq,nA,nB,nC,nD,nE,nF]
 exact ⟨_,_,Weak.refl _,Hp.le.refl _,rfl,rfl⟩
def aggOf (cs:List AV):AV:=.agg cs
theorem g_index51 (fid:Nat) (caps:List AV) (xs:List (List AV)) (hx:∀ j,j < xs.length→(xs.getD j []).length=6) (hl:xs.length≤100000) (I P:Nat→Hp→Prop) (h:Hp) (h0:I 0 h)
  (step:∀ j h,j < xs.length→I j h→ACalls Tryz.prog fid (aggOf (xs.getD j []) :: caps) h (fun r h'=>∃ b,r=.v (.bool b)∧(b=true→P j h')∧(b=false→I (j+1) h'))) :
  ACalls Tryz.prog 255 [.row 6 xs none,.fn fid caps] h (fun r h'=>(∃ j:Nat,j < xs.length∧r=.v (.int .i64 j)∧P j h')∨r=.v (.int .i64 (-1))∧I xs.length h'):=by
 refine gE Tryz.func255 rfl (by kernel_rfl) 17 rfl fun c=>?_
 (repeat (first|refine gO rfl ?_|(refine gR fun K1 hK1=>?_;simp only [go_sem,↓reduceIte,reduceCtorEq,nA,nB,nC,nD,nE,nF]<;>and_intros<;>(apply hK1;clear hK1 K1))))
 refine awp_loopC (rl false [0,2,5,2,10]) 0 (fun g s=>∃ (j:Nat) (h':Hp),g+j=xs.length∧I j h'∧s=⟨((.row 6 xs none) :: (.fn fid caps) :: (jnk 5 ((.v (.int .i64 xs.length)) :: (.v (.int .i64 j)) :: (jnk 10 [])))),[],h'⟩) xs.length ⟨0,h,by omega,h0,rfl⟩ ?_
 rintro g _ ⟨j,h',hj,hI,rfl⟩
 (repeat (first|refine gO rfl ?_|(refine gR fun K1 hK1=>?_;simp only [go_sem,↓reduceIte,reduceCtorEq,nA,nB,nC,nD,nE,nF]<;>and_intros<;>(apply hK1;clear hK1 K1))))
 refine awp_cond (t:=_) rfl (fun h1=>?_) (fun h1=>?_)
 ·simp only [decide_eq_true_eq] at h1
  have hjk:j < xs.length:=by omega
  have hlen:=hx j hjk
  have st:=step j h' hjk hI
  (repeat (first|refine gO rfl ?_|(refine gR fun K1 hK1=>?_;simp only [go_sem,↓reduceIte,reduceCtorEq,nA,nB,nC,nD,nE,nF,Int.toNat_natCast,hlen]<;>and_intros<;>first|(apply hK1;clear hK1 K1)|(intros;(omega))|skip)))
  rw [show List.take 6 (xs.getD j [])=xs.getD j [] from List.take_of_length_le (Nat.le_of_eq hlen)]
  refine st.mono ?_;rintro _ _ ⟨b,rfl,hb1,hb2⟩;apply hK1;clear hK1 K1
  (repeat ((refine gO rfl ?_)))
  refine awp_cond (t:=_) rfl (fun h2=>?_) (fun h2=>?_)
  ·(repeat (first|refine gO rfl ?_|(refine gR fun K1 hK1=>?_;simp only [go_sem,↓reduceIte,reduceCtorEq,nA,nB,nC,nD,nE,nF]<;>and_intros<;>(apply hK1;clear hK1 K1))))
   simp only [Tryz.results255,go_sem,↓reduceIte,reduceCtorEq,nA,nB,nC,nD,nE,nF]
   exact ⟨_,_,Weak.refl _,Hp.le.refl _,.inl ⟨j,hjk,rfl,hb1 h2⟩⟩
  ·(repeat (first|refine gO rfl ?_|(refine gR fun K1 hK1=>?_;simp only [go_sem,↓reduceIte,reduceCtorEq,nA,nB,nC,nD,nE,nF]<;>and_intros<;>first|(apply hK1;clear hK1 K1)|(intros;(omega)))))
   exact ⟨g - 1,by omega,j+1,_,by omega,hb2 h2,rfl⟩
 ·simp only [decide_eq_false_iff_not] at h1
  have hjk:j=xs.length:=by omega
  subst hjk
  (repeat (first|refine gO rfl ?_|(refine gR fun K1 hK1=>?_;simp only [go_sem,↓reduceIte,reduceCtorEq,nA,nB,nC,nD,nE,nF]<;>and_intros<;>(apply hK1;clear hK1 K1))))
  simp only [Tryz.results255,go_sem,↓reduceIte,reduceCtorEq,nA,nB,nC,nD,nE,nF]
  exact ⟨_,_,Weak.refl _,Hp.le.refl _,.inr ⟨rfl,hI⟩⟩
theorem g_contains41 (fid:Nat) (caps:List AV) (xs:List (List AV)) (hx:∀ j,j < xs.length→(xs.getD j []).length=6) (hl:xs.length≤100000) (I P:Nat→Hp→Prop) (h:Hp) (h0:I 0 h)
  (step:∀ j h,j < xs.length→I j h→ACalls Tryz.prog fid (aggOf (xs.getD j []) :: caps) h (fun r h'=>∃ b,r=.v (.bool b)∧(b=true→P j h')∧(b=false→I (j+1) h'))) :
  ACalls Tryz.prog 197 [.row 6 xs none,.fn fid caps] h (fun r h'=>(∃ j:Nat,j < xs.length∧r=.v (.bool true)∧P j h')∨r=.v (.bool false)∧I xs.length h'):=by
 refine gE Tryz.func197 rfl (by kernel_rfl) 7 rfl fun c=>?_
 (repeat (first|refine gO rfl ?_|(refine gR fun K1 hK1=>?_;simp only [go_sem,↓reduceIte,reduceCtorEq,nA,nB,nC,nD,nE,nF]<;>and_intros<;>first|(apply hK1;clear hK1 K1)|skip)))
 refine (g_index51 fid caps xs hx hl I P h h0 step).mono ?_
 rintro _ h' (⟨j,hj,rfl,hp⟩|⟨rfl,hi⟩)
 ·refine hK1 _ ?_;clear hK1 K1
  (repeat (first|refine gO rfl ?_|(refine gR fun K1 hK1=>?_;simp only [go_sem,↓reduceIte,reduceCtorEq,nA,nB,nC,nD,nE,nF]<;>and_intros<;>(apply hK1;clear hK1 K1))))
  simp only [Tryz.results197,go_sem,↓reduceIte,reduceCtorEq,nA,nB,nC,nD,nE,nF]
  exact ⟨_,_,Weak.refl _,Hp.le.refl _,.inl ⟨j,hj,by simp,hp⟩⟩
 ·refine hK1 _ ?_;clear hK1 K1
  (repeat (first|refine gO rfl ?_|(refine gR fun K1 hK1=>?_;simp only [go_sem,↓reduceIte,reduceCtorEq,nA,nB,nC,nD,nE,nF]<;>and_intros<;>(apply hK1;clear hK1 K1))))
  simp only [Tryz.results197,go_sem,↓reduceIte,reduceCtorEq,nA,nB,nC,nD,nE,nF]
  exact ⟨_,_,Weak.refl _,Hp.le.refl _,.inr ⟨by simp,hi⟩⟩
def outB (x lo hi:Int):Bool:=decide (x < lo) || decide (hi < x)
def firstNZ:List Int→Int
 | []=>0
 | x :: xs=>if x=0 then firstNZ xs else x
def partF:LT→Int
 | .mk kind item long many kids shares =>
  if outB kind 1 5 then 4 else if formB kind item long many kids.length shares.length then 3 else if kind == 1 && !keyB item then 5 else if kind == 1 && outB long 1 3600000 then 1
   else if kind == 5 && outB many 1 100 then 1 else if shares.any (fun n=>outB n 1 1000) then 1 else firstNZ (kids.map partF)
theorem partF_eq (kind:Int) (item:ByteArray) (long many:Int) (kids:List LT) (shares:List Int):partF (.mk kind item long many kids shares) =
  if outB kind 1 5 then 4 else if formB kind item long many kids.length shares.length then 3 else if kind == 1 && !keyB item then 5 else if kind == 1 && outB long 1 3600000 then 1
   else if kind == 5 && outB many 1 100 then 1 else if shares.any (fun n=>outB n 1 1000) then 1 else firstNZ (kids.map partF):=by rw [partF]
theorem firstNZ_app (l:List Int) (x:Int):firstNZ (l++[x])=if firstNZ l=0 then x else firstNZ l:=by
 induction l with
 | nil=>simp only [List.nil_append,firstNZ];split<;>simp_all
 | cons y l ih =>
  simp only [List.cons_append,firstNZ]
  split
  ·exact ih
  ·simp_all
theorem firstNZ_pre:∀ (l:List Int) (j:Nat) (x:Int),l[j]?=some x→x≠0→firstNZ (l.take j)=0→firstNZ l=x
 | [],_,_,h,_,_=>by simp at h
 | y :: l,0,x,h,hx,_=>by simp at h;subst h;simp [firstNZ,hx]
 | y :: l,j+1,x,h,hx,h0=>by
  simp only [List.take_succ_cons,firstNZ] at h0 ⊢
  split at h0
  ·rename_i hy;rw [if_pos hy];exact firstNZ_pre l j x (by simpa using h) hx h0
  ·rename_i hy;exact absurd h0 hy
theorem g_part24:∀ (d:Nat) (t:LT) (h:Hp),KC d t→ACalls Tryz.prog 140 [.agg (encL t)] h (fun r h'=>r=.v (.int .i64 (partF t))∧h'=h)
 | 0,_,_,hb=>hb.elim
 | d + 1, .mk kind item long many kids shares, h0, hb => by
  obtain ⟨b1,b2,b3,b4,b5,b6,b7,b8⟩:=hb
  have hf:=fun h=>g_form kind item long many kids shares h b5 b6
  simp only [encL_eq] at hf ⊢
  refine gE Tryz.func140 rfl (by kernel_rfl) 63 rfl fun c=>?_
  (repeat (first|refine gO rfl ?_|(refine gM zM23 fun K1 hK1=>?_;simp only [go_sem,↓reduceIte,reduceCtorEq,nA,nB,nC,nD,nE,nF]<;>and_intros<;>first|(apply hK1;clear hK1 K1)|skip)))
  refine (a_outside kind 1 5 _).mono ?_;rintro _ hz ⟨rfl,hh⟩;apply hK1;clear hK1 K1;rw [hh];clear hh hz
  (repeat ((refine gO rfl ?_)))
  refine awp_cond (t:=_) rfl (fun h1=>?_) (fun h1=>?_)
  ·(repeat (first|refine gO rfl ?_|(refine gM zM23 fun K1 hK1=>?_;simp only [go_sem,↓reduceIte,reduceCtorEq,nA,nB,nC,nD,nE,nF]<;>and_intros<;>(apply hK1;clear hK1 K1))))
   simp only [Tryz.results140,go_sem,↓reduceIte,reduceCtorEq,nA,nB,nC,nD,nE,nF]
   exact ⟨_,_,Weak.refl _,Hp.le.refl _,by rw [partF_eq,show outB kind 1 5=true from h1];rfl,rfl⟩
  ·(repeat (first|refine gO rfl ?_|(refine gM zM23 fun K1 hK1=>?_;simp only [go_sem,↓reduceIte,reduceCtorEq,nA,nB,nC,nD,nE,nF]<;>and_intros)))
   refine (hf _).mono ?_;rintro _ hz ⟨rfl,hh⟩;apply hK1;clear hK1 K1;rw [hh];clear hh hz
   (repeat ((refine gO rfl ?_)))
   refine awp_cond (t:=_) rfl (fun h2=>?_) (fun h2=>?_)
   ·(repeat (first|refine gO rfl ?_|(refine gM zM23 fun K1 hK1=>?_;simp only [go_sem,↓reduceIte,reduceCtorEq,nA,nB,nC,nD,nE,nF]<;>and_intros<;>(apply hK1;clear hK1 K1))))
    simp only [Tryz.results140,go_sem,↓reduceIte,reduceCtorEq,nA,nB,nC,nD,nE,nF]
    exact ⟨_,_,Weak.refl _,Hp.le.refl _,by rw [partF_eq,show outB kind 1 5=false from h1,h2];rfl,rfl⟩
   ·(repeat ((refine gQ rfl ?_)))
    refine awp_seq ?_
    refine awp_join (rl false [1,1,62]) 0 (fun s=>((kind == 1 && !keyB item)=false∧(kind == 1 && outB long 1 3600000)=false∧(kind == 5 && outB many 1 100)=false) ∧
     s=⟨(AV.junk :: ((.ref [.v (.int .i64 kind),.v (.string item),.v (.int .i64 long),.v (.int .i64 many),.row 6 (kids.map encL) none,.row 1 (shares.map encI) none] 0) :: (jnk 62 []))),[],h0⟩) ?_ ?_
    ·have key:∀ q1 q5:Bool,(kind == 1)=q1→(kind == 5)=q5→(q1 && q5)=false→(q1=true∧q5=false∨q1=false∧q5=true∨q1=false∧q5=false):=by intro q1 q5 _ _;cases q1<;>cases q5<;>simp
     rcases key _ _ rfl rfl (by simp;omega) with ⟨e1,e5⟩|⟨e1,e5⟩|⟨e1,e5⟩
     ·(repeat (first|refine gO rfl ?_|(refine gM zM23 fun K1 hK1=>?_;simp only [go_sem,↓reduceIte,reduceCtorEq,nA,nB,nC,nD,nE,nF,e1,e5]<;>and_intros<;>first|(intros;(simp_all<;>omega))|skip)))
      refine (a_isKey item (by omega) _).mono ?_;rintro _ hz ⟨rfl,hh⟩;refine ⟨rfl,hK1 _ ?_⟩;clear hK1 K1;rw [hh];clear hh hz
      (repeat (first|refine gO rfl ?_|(refine gM zM23 fun K1 hK1=>?_;simp only [go_sem,↓reduceIte,reduceCtorEq,nA,nB,nC,nD,nE,nF,e1,e5]<;>and_intros<;>(apply hK1;clear hK1 K1))))
      refine awp_cond (t:=_) rfl (fun h3=>?_) (fun h3=>?_)
      ·(repeat (first|refine gO rfl ?_|(refine gM zM23 fun K1 hK1=>?_;simp only [go_sem,↓reduceIte,reduceCtorEq,nA,nB,nC,nD,nE,nF]<;>and_intros<;>(apply hK1;clear hK1 K1))))
       simp only [Tryz.results140,go_sem,↓reduceIte,reduceCtorEq,nA,nB,nC,nD,nE,nF]
       exact ⟨_,_,Weak.refl _,Hp.le.refl _,by rw [partF_eq,show outB kind 1 5=false from h1,h2,e1,h3];rfl,rfl⟩
      ·(repeat ((refine gM zM23 fun K1 hK1=>?_;simp only [go_sem,↓reduceIte,reduceCtorEq,nA,nB,nC,nD,nE,nF,e1,e5]<;>and_intros<;>first|(intros;(simp_all<;>omega))|skip)))
       refine (a_outside long 1 3600000 _).mono ?_;rintro _ hz ⟨rfl,hh⟩;refine ⟨rfl,hK1 _ ?_⟩;clear hK1 K1;rw [hh];clear hh hz
       (repeat (first|refine gO rfl ?_|(refine gM zM23 fun K1 hK1=>?_;simp only [go_sem,↓reduceIte,reduceCtorEq,nA,nB,nC,nD,nE,nF,e1,e5]<;>and_intros<;>(apply hK1;clear hK1 K1))))
       refine awp_cond (t:=_) rfl (fun h4=>?_) (fun h4=>?_)
       ·(repeat (first|refine gO rfl ?_|(refine gM zM23 fun K1 hK1=>?_;simp only [go_sem,↓reduceIte,reduceCtorEq,nA,nB,nC,nD,nE,nF]<;>and_intros<;>(apply hK1;clear hK1 K1))))
        simp only [Tryz.results140,go_sem,↓reduceIte,reduceCtorEq,nA,nB,nC,nD,nE,nF]
        exact ⟨_,_,Weak.refl _,Hp.le.refl _,by rw [partF_eq,show outB kind 1 5=false from h1,h2,e1,h3,show outB long 1 3600000=true from h4];rfl,rfl⟩
       ·(repeat (first|refine gO rfl ?_|(refine gM zM23 fun K1 hK1=>?_;simp only [go_sem,↓reduceIte,reduceCtorEq,nA,nB,nC,nD,nE,nF,e1,e5]<;>and_intros<;>(apply hK1;clear hK1 K1))))
        refine awp_cond (t:=_) rfl (fun h5=>by cases h5) (fun h5=>?_)
        (repeat ((refine gO rfl ?_)))
        exact ⟨⟨by simp only [e1,e5,h3,Bool.true_and,Bool.false_and],by simp only [e1,e5,outB,h4,Bool.true_and,Bool.false_and],by simp only [e1,e5,outB,h4,Bool.true_and,Bool.false_and]⟩,rfl⟩
     ·(repeat (first|refine gO rfl ?_|(refine gM zM23 fun K1 hK1=>?_;simp only [go_sem,↓reduceIte,reduceCtorEq,nA,nB,nC,nD,nE,nF,e1,e5]<;>and_intros<;>first|(apply hK1;clear hK1 K1)|skip)))
      refine ⟨.v (.bool false),rfl,True.intro,hK1 _ ?_⟩;clear hK1 K1
      (repeat ((refine gO rfl ?_)))
      refine awp_cond (t:=_) rfl (fun h5=>by cases h5) (fun h5=>?_)
      (repeat (first|refine gO rfl ?_|(refine gM zM23 fun K1 hK1=>?_;simp only [go_sem,↓reduceIte,reduceCtorEq,nA,nB,nC,nD,nE,nF,e1,e5]<;>and_intros<;>(apply hK1;clear hK1 K1))))
      refine awp_cond (t:=_) rfl (fun h5=>by cases h5) (fun h5=>?_)
      (repeat ((refine gM zM23 fun K1 hK1=>?_;simp only [go_sem,↓reduceIte,reduceCtorEq,nA,nB,nC,nD,nE,nF,e1,e5]<;>and_intros<;>first|(intros;(simp_all<;>omega))|skip)))
      refine (a_outside many 1 100 _).mono ?_;rintro _ hz ⟨rfl,hh⟩;refine ⟨rfl,hK1 _ ?_⟩;clear hK1 K1;rw [hh];clear hh hz
      (repeat (first|refine gO rfl ?_|(refine gM zM23 fun K1 hK1=>?_;simp only [go_sem,↓reduceIte,reduceCtorEq,nA,nB,nC,nD,nE,nF,e1,e5]<;>and_intros<;>(apply hK1;clear hK1 K1))))
      refine awp_cond (t:=_) rfl (fun h4=>?_) (fun h4=>?_)
      ·(repeat (first|refine gO rfl ?_|(refine gM zM23 fun K1 hK1=>?_;simp only [go_sem,↓reduceIte,reduceCtorEq,nA,nB,nC,nD,nE,nF]<;>and_intros<;>(apply hK1;clear hK1 K1))))
       simp only [Tryz.results140,go_sem,↓reduceIte,reduceCtorEq,nA,nB,nC,nD,nE,nF]
       exact ⟨_,_,Weak.refl _,Hp.le.refl _,by rw [partF_eq,show outB kind 1 5=false from h1,h2,e1,e5,show outB many 1 100=true from h4];rfl,rfl⟩
      ·(repeat ((refine gO rfl ?_)))
       exact ⟨⟨by simp only [e1,e5,h4,Bool.true_and,Bool.false_and],by simp only [e1,e5,outB,h4,Bool.true_and,Bool.false_and],by simp only [e1,e5,outB,h4,Bool.true_and,Bool.false_and]⟩,rfl⟩
     ·(repeat (first|refine gO rfl ?_|(refine gM zM23 fun K1 hK1=>?_;simp only [go_sem,↓reduceIte,reduceCtorEq,nA,nB,nC,nD,nE,nF,e1,e5]<;>and_intros<;>first|(apply hK1;clear hK1 K1)|skip)))
      refine ⟨.v (.bool false),rfl,True.intro,hK1 _ ?_⟩;clear hK1 K1
      (repeat ((refine gO rfl ?_)))
      refine awp_cond (t:=_) rfl (fun h5=>by cases h5) (fun h5=>?_)
      (repeat (first|refine gO rfl ?_|(refine gM zM23 fun K1 hK1=>?_;simp only [go_sem,↓reduceIte,reduceCtorEq,nA,nB,nC,nD,nE,nF,e1,e5]<;>and_intros<;>(apply hK1;clear hK1 K1))))
      refine awp_cond (t:=_) rfl (fun h5=>by cases h5) (fun h5=>?_)
      (repeat (first|refine gO rfl ?_|(refine gM zM23 fun K1 hK1=>?_;simp only [go_sem,↓reduceIte,reduceCtorEq,nA,nB,nC,nD,nE,nF,e1,e5]<;>and_intros<;>(apply hK1;clear hK1 K1))))
      refine awp_cond (t:=_) rfl (fun h5=>by cases h5) (fun h5=>?_)
      (repeat ((refine gO rfl ?_)))
      exact ⟨⟨by simp only [e1,e5,h1,Bool.true_and,Bool.false_and],by simp only [e1,e5,outB,h1,Bool.true_and,Bool.false_and],by simp only [e1,e5,outB,h1,Bool.true_and,Bool.false_and]⟩,rfl⟩
    ·rintro _ ⟨⟨h3,h4,h5⟩,rfl⟩
     have hpf:partF (.mk kind item long many kids shares)=if shares.any (fun n=>outB n 1 1000) then 1 else firstNZ (kids.map partF):=by
      rw [partF_eq,show outB kind 1 5=false from h1,h2,h3,h4,h5];rfl
     skip
     refine awp_seq ?_
     refine awp_join (rl false [1,1,62]) 0 (fun s=>shares.any (fun n=>outB n 1 1000)=false ∧
      s=⟨(AV.junk :: ((.ref [.v (.int .i64 kind),.v (.string item),.v (.int .i64 long),.v (.int .i64 many),.row 6 (kids.map encL) none,.row 1 (shares.map encI) none] 0) :: (jnk 62 []))),[],h0⟩) ?_ ?_
     ·(repeat (first|refine gO rfl ?_|(refine gM zM23 fun K1 hK1=>?_;simp only [go_sem,↓reduceIte,reduceCtorEq,nA,nB,nC,nD,nE,nF]<;>and_intros<;>(apply hK1;clear hK1 K1))))
      refine awp_loopC (rl false [1,1,40,3,19]) 0 (fun g s=>∃ j:Nat,g+j=shares.length∧(shares.take j).any (fun n=>outB n 1 1000)=false ∧
       s=⟨(AV.junk :: ((.ref [.v (.int .i64 kind),.v (.string item),.v (.int .i64 long),.v (.int .i64 many),.row 6 (kids.map encL) none,.row 1 (shares.map encI) none] 0) :: (jnk 40 ((.row 1 (shares.map encI) none) :: (.v (.int .i64 shares.length)) :: (.v (.int .i64 j)) :: (jnk 19 []))))),[],h0⟩) shares.length ⟨0,by omega,rfl,rfl⟩ ?_
      rintro g _ ⟨j,hj,hany,rfl⟩
      (repeat (first|refine gO rfl ?_|(refine gM zM23 fun K1 hK1=>?_;simp only [go_sem,↓reduceIte,reduceCtorEq,nA,nB,nC,nD,nE,nF]<;>and_intros<;>(apply hK1;clear hK1 K1))))
      refine awp_cond (t:=_) rfl (fun h6=>?_) (fun h6=>?_)
      ·simp only [decide_eq_true_eq] at h6
       have hjk:j < shares.length:=by omega
       have hg:(shares.map encI).getD j []=encI (shares.getD j default):=getD_enc encI shares j default hjk
       have e1:=take_succ_map (fun n=>outB n 1 1000) shares j hjk
       generalize hsv:shares.getD j default=sv at hg e1
       have hmem:=getD_mem' shares j default hjk
       rw [hsv] at hmem
       (repeat (first|refine gO rfl ?_|(refine gM zM23 fun K1 hK1=>?_;simp only [go_sem,↓reduceIte,reduceCtorEq,nA,nB,nC,nD,nE,nF,Int.toNat_natCast,hg,encI]<;>and_intros<;>first|(apply hK1;clear hK1 K1)|(intros;(omega))|skip)))
       refine (a_outside sv 1 1000 _).mono ?_;rintro _ hz ⟨rfl,hh⟩;apply hK1;clear hK1 K1;rw [hh];clear hh hz
       (repeat ((refine gO rfl ?_)))
       refine awp_cond (t:=_) rfl (fun h7=>?_) (fun h7=>?_)
       ·(repeat (first|refine gO rfl ?_|(refine gM zM23 fun K1 hK1=>?_;simp only [go_sem,↓reduceIte,reduceCtorEq,nA,nB,nC,nD,nE,nF]<;>and_intros<;>(apply hK1;clear hK1 K1))))
        simp only [Tryz.results140,go_sem,↓reduceIte,reduceCtorEq,nA,nB,nC,nD,nE,nF]
        exact ⟨_,_,Weak.refl _,Hp.le.refl _,by rw [hpf,if_pos (List.any_eq_true.2 ⟨sv,hmem,h7⟩)],rfl⟩
       ·(repeat (first|refine gO rfl ?_|(refine gM zM23 fun K1 hK1=>?_;simp only [go_sem,↓reduceIte,reduceCtorEq,nA,nB,nC,nD,nE,nF]<;>and_intros<;>first|(apply hK1;clear hK1 K1)|(intros;(omega)))))
        refine ⟨g - 1,by omega,j+1,by omega,?_,rfl⟩
        rw [List.any_eq_false] at hany ⊢
        intro x hx
        rw [List.take_add_one] at hx
        rcases List.mem_append.1 hx with hx|hx
        ·exact hany x hx
        ·rw [List.getElem?_eq_getElem hjk] at hx
         rw [List.getD_eq_getElem?_getD,List.getElem?_eq_getElem hjk] at hsv
         simp at hx hsv
         rw [hx,hsv]
         exact by simpa [outB] using h7
      ·simp only [decide_eq_false_iff_not] at h6
       have hjk:j=shares.length:=by omega
       subst hjk
       rw [List.take_length] at hany
       (repeat ((refine gO rfl ?_)))
       exact ⟨hany,rfl⟩
     ·rintro _ ⟨hany,rfl⟩
      rw [if_neg (by rw [hany];simp)] at hpf
      (repeat (first|refine gO rfl ?_|(refine gM zM23 fun K1 hK1=>?_;simp only [go_sem,↓reduceIte,reduceCtorEq,nA,nB,nC,nD,nE,nF]<;>and_intros<;>(apply hK1;clear hK1 K1))))
      refine awp_loopC (rl false [52,3,9]) 0 (fun g s=>∃ j:Nat,g+j=kids.length∧firstNZ ((kids.map partF).take j)=0 ∧
       s=⟨((jnk 52 ((.row 6 (kids.map encL) none) :: (.v (.int .i64 kids.length)) :: (.v (.int .i64 j)) :: (jnk 9 [])))),[],h0⟩) kids.length ⟨0,by omega,rfl,rfl⟩ ?_
      rintro g _ ⟨j,hj,hnz,rfl⟩
      (repeat (first|refine gO rfl ?_|(refine gM zM23 fun K1 hK1=>?_;simp only [go_sem,↓reduceIte,reduceCtorEq,nA,nB,nC,nD,nE,nF]<;>and_intros<;>(apply hK1;clear hK1 K1))))
      refine awp_cond (t:=_) rfl (fun h6=>?_) (fun h6=>?_)
      ·simp only [decide_eq_true_eq] at h6
       have hjk:j < kids.length:=by omega
       have hg:(kids.map encL).getD j []=encL (kids.getD j default):=getD_enc encL kids j default hjk
       have hmem:=getD_mem' kids j default hjk
       have hbt:=b8 _ hmem
       have hgp:(kids.map partF)[j]?=some (partF (kids.getD j default)):=by rw [List.getElem?_map,List.getElem?_eq_getElem hjk,List.getD_eq_getElem?_getD,List.getElem?_eq_getElem hjk];rfl
       have e1:(kids.map partF).take (j+1)=(kids.map partF).take j++[partF (kids.getD j default)]:=by rw [List.take_add_one,hgp];rfl
       generalize kids.getD j default=t2 at hg hmem hbt hgp e1
       have hlen:=encL_len t2
       have htk:List.take 6 (encL t2)=encL t2:=List.take_of_length_le (Nat.le_of_eq hlen)
       have hdr:List.drop 6 (encL t2)=[]:=List.drop_of_length_le (Nat.le_of_eq hlen)
       (repeat (first|refine gO rfl ?_|(refine gM zM23 fun K1 hK1=>?_;simp only [go_sem,↓reduceIte,reduceCtorEq,nA,nB,nC,nD,nE,nF,Int.toNat_natCast,hg,hlen,htk,hdr]<;>and_intros<;>first|(apply hK1;clear hK1 K1)|(intros;(omega))|skip)))
       refine (g_part24 d t2 h0 hbt).mono ?_;rintro _ hz ⟨rfl,hh⟩;apply hK1;clear hK1 K1;rw [hh];clear hh hz
       (repeat (first|refine gO rfl ?_|(refine gM zM23 fun K1 hK1=>?_;simp only [go_sem,↓reduceIte,reduceCtorEq,nA,nB,nC,nD,nE,nF]<;>and_intros<;>(apply hK1;clear hK1 K1))))
       refine awp_cond (t:=_) rfl (fun h7=>?_) (fun h7=>?_)
       ·(repeat (first|refine gO rfl ?_|(refine gM zM23 fun K1 hK1=>?_;simp only [go_sem,↓reduceIte,reduceCtorEq,nA,nB,nC,nD,nE,nF]<;>and_intros<;>(apply hK1;clear hK1 K1))))
        simp only [Tryz.results140,go_sem,↓reduceIte,reduceCtorEq,nA,nB,nC,nD,nE,nF]
        exact ⟨_,_,Weak.refl _,Hp.le.refl _,by rw [hpf,firstNZ_pre _ j _ hgp (by simpa using h7) hnz],rfl⟩
       ·(repeat (first|refine gO rfl ?_|(refine gM zM23 fun K1 hK1=>?_;simp only [go_sem,↓reduceIte,reduceCtorEq,nA,nB,nC,nD,nE,nF]<;>and_intros<;>first|(apply hK1;clear hK1 K1)|(intros;(omega)))))
        refine ⟨g - 1,by omega,j+1,by omega,?_,rfl⟩
        rw [e1,firstNZ_app,if_pos hnz]
        simpa using h7
      ·simp only [decide_eq_false_iff_not] at h6
       have hjk:j=kids.length:=by omega
       rw [List.take_of_length_le (by simp;omega)] at hnz
       (repeat (first|refine gO rfl ?_|(refine gM zM23 fun K1 hK1=>?_;simp only [go_sem,↓reduceIte,reduceCtorEq,nA,nB,nC,nD,nE,nF]<;>and_intros<;>(apply hK1;clear hK1 K1))))
       simp only [Tryz.results140,go_sem,↓reduceIte,reduceCtorEq,nA,nB,nC,nD,nE,nF]
       exact ⟨_,_,Weak.refl _,Hp.le.refl _,by rw [hpf,hnz],rfl⟩
def oMany (m:Int):AO:=.cells [.v (.int .i64 m)]
theorem sum_take_le (kids:List LT) (f:LT→Int) (hf:∀ x∈kids,0≤f x) (j:Nat):((kids.take j).map f).sum≤(kids.map f).sum:=by
 have e:(kids.map f).sum=((kids.take j).map f).sum+((kids.drop j).map f).sum:=by rw [← List.sum_append,← List.map_append,List.take_append_drop]
 have:∀ l:List LT,(∀ x∈l,0≤f x)→0≤(l.map f).sum:=fun l=>by
  induction l with
  | nil=>simp
  | cons x l ih=>intro h;have h1:=h x (by simp);have h2:=ih fun y hy=>h y (by simp [hy]);simp only [List.map_cons,List.sum_cons];omega
 have:=this (kids.drop j) fun x hx=>hf x (List.mem_of_mem_drop hx)
 omega
theorem max_take (kids:List LT) (f:LT→Int):∀ (j:Nat) (_:j < kids.length),f (kids.getD j default)≤(kids.map f).foldl max 0:=by
 have key:∀ (l:List LT) (a:Int) (j:Nat),j < l.length→a≤(l.map f).foldl max a∧f (l.getD j default)≤(l.map f).foldl max a:=by
  intro l
  induction l with
  | nil=>intro a j h;simp at h
  | cons x l ih =>
   intro a j h
   simp only [List.map_cons,List.foldl_cons]
   have mono:∀ (l:List Int) (a:Int),a≤l.foldl max a:=fun l=>by
    induction l with
    | nil=>intro a;exact Int.le_refl _
    | cons y l ih=>intro a;have:=ih (max a y);simp only [List.foldl_cons];omega
   cases j with
   | zero=>have:=mono (l.map f) (max a (f x));simp only [List.getD_cons_zero];omega
   | succ j=>have:=ih (max a (f x)) j (by simpa using h);simp only [List.getD_cons_succ];omega
 exact fun j hj=>(key kids 0 j hj).2
def LargeR (t:LT) (deep m:Int) (h:Hp) (i:Nat) (r:AV) (h':Hp):Prop :=
 ∃ (b:Bool) (m':Int),r=.v (.bool b)∧h'={ h with H:=upd h.H i (some (oMany m')) }∧(b=true→200 < m+manyF t∨12 < deep+deepF t - 1)∧(b=false→m+manyF t≤200∧deep+deepF t - 1≤12∧m'=m+manyF t)
theorem g_large:∀ (d:Nat) (t:LT) (h:Hp) (i:Nat) (m deep:Int),KC d t→manyF t≤1000000000000000∧d≤1000→(0≤m∧m≤200)→(0≤deep∧deep≤1000)→h.H i=some (oMany m) →
  ACalls Tryz.prog 139 [.ptr i 0,.agg (encL t),.v (.int .i64 deep)] h (LargeR t deep m h i)
 | 0,_,_,_,_,_,hb,_,_,_,_=>hb.elim
 | d+1,t,h,i,m,deep,hb,hd,hm,hdp,hi=>by
  cases t with
  | mk kind item long many kids shares =>
  obtain ⟨b1,b2,b3,b4,b5,b6,b7,b8⟩:=id hb
  have hi':h.H i=some (.cells [.v (.int .i64 m)]):=hi
  have hpos:∀ x∈kids,1≤manyF x∧1≤deepF x:=fun x hx=>by have:=size_bd d x (b8 x hx);omega
  refine gE Tryz.func139 rfl (by kernel_rfl) 24 rfl fun c=>?_
  rw [encL_eq]
  (repeat (first|refine gO rfl ?_|(refine gR fun K1 hK1=>?_;simp only [go_sem,↓reduceIte,reduceCtorEq,nA,nB,nC,nD,nE,nF,hi']<;>and_intros<;>first|(apply hK1;clear hK1 K1)|(intros;(omega)))))
  refine awp_cond (t:=_) rfl (fun h1=>?_) (fun h1=>?_)
  ·(repeat (first|refine gO rfl ?_|(refine gR fun K1 hK1=>?_;simp only [go_sem,↓reduceIte,reduceCtorEq,nA,nB,nC,nD,nE,nF,hi']<;>and_intros<;>(apply hK1;clear hK1 K1))))
   simp only [Tryz.results139,go_sem,↓reduceIte,reduceCtorEq,nA,nB,nC,nD,nE,nF]
   simp only [Bool.or_eq_true,decide_eq_true_eq] at h1
   have hs:=sum_bd manyF 0 (Int.le_refl _) ([]:List LT) (by simp)
   have hd1:=size_bd (d+1) _ hb
   refine ⟨_,_,Weak.refl _,Hp.le.refl _,true,m+1,rfl,rfl,fun _=>?_,fun h=>by cases h⟩
   rw [manyF_eq,deepF_eq] at *
   have h2:=sum_take_le kids manyF (fun x hx=>by have:=hpos x hx;omega) 0
   have h3:=max_bd deepF 1000 kids 0 (by omega) fun x hx=>by have:=size_bd d x (b8 x hx);omega
   simp only [List.take_zero,List.map_nil,List.sum_nil] at h2
   omega
  ·(repeat (first|refine gO rfl ?_|(refine gR fun K1 hK1=>?_;simp only [go_sem,↓reduceIte,reduceCtorEq,nA,nB,nC,nD,nE,nF,hi']<;>and_intros<;>first|(intros;(decide))|skip)))
   simp only [Bool.or_eq_false_iff,decide_eq_false_iff_not] at h1
   refine (g_contains41 198 [.ref [.ptr i 0] 0,.ref [.v (.int .i64 deep)] 0] (kids.map encL) (fun j hj=>?_) (by simp;omega)
    (fun j h'=>h'={ h with H:=upd h.H i (some (oMany (m+1+((kids.take j).map manyF).sum))) }∧m+1+((kids.take j).map manyF).sum≤200∧(((kids.take j).map deepF).foldl max 0+deep≤12))
    (fun j h'=>∃ m',h'={ h with H:=upd h.H i (some (oMany m')) }∧(200 < m+1+((kids.take (j+1)).map manyF).sum∨12 < deep+deepF (kids.getD j default)))
    _ ⟨by simp;rfl,by simp;omega,by simp;omega⟩ ?_).mono ?_
   ·have hj':j < kids.length:=by simpa using hj
    rw [show (kids.map encL).getD j []=encL (kids.getD j default) from getD_enc encL kids j default hj']
    exact encL_len _
   ·rintro j h' hj ⟨rfl,hs1,hs2⟩
    have hjk:j < kids.length:=by simpa using hj
    rw [show (kids.map encL).getD j []=encL (kids.getD j default) from getD_enc encL kids j default hjk]
    have hmem:=getD_mem' kids j default hjk
    have e1:=take_succ_map manyF kids j hjk
    have e2:=take_succ_map deepF kids j hjk
    have hbt:=b8 _ hmem
    have hp2:=hpos _ hmem
    have h0:=many_take (kids:=kids) (fun x hx=>by have:=hpos x hx;omega) j
    have hmk:=many_kid (kids:=kids) (fun x hx=>by have:=hpos x hx;omega) hmem
    have hd1:=hd.1
    rw [manyF_eq] at hd1
    rw [e1,List.sum_append]
    have hl42:∀ t2,KC d t2→manyF t2≤1000000000000000→ACalls Tryz.prog 198 [aggOf (encL t2),.ref [.ptr i 0] 0,.ref [.v (.int .i64 deep)] 0] { h with H:=upd h.H i (some (oMany (m+1+((kids.take j).map manyF).sum))) } (LargeR t2 (deep+1) (m+1+((kids.take j).map manyF).sum) h i):=fun t2 ht2 hm2=>by
     have hlen:=encL_len t2
     have htk:List.take 6 (encL t2)=encL t2:=List.take_of_length_le (Nat.le_of_eq hlen)
     unfold aggOf
     refine gE Tryz.func198 rfl (by kernel_rfl) 7 rfl fun c=>?_
     (repeat (first|refine gO rfl ?_|(refine gR fun K1 hK1=>?_;simp only [go_sem,↓reduceIte,reduceCtorEq,nA,nB,nC,nD,nE,nF,hlen,htk]<;>and_intros<;>first|(apply hK1;clear hK1 K1)|(intros;(omega))|skip)))
     refine (g_large d t2 _ i _ (deep+1) ht2 ⟨hm2,by omega⟩ (by omega) (by omega) (upd_same _ _ _)).mono ?_
     rintro _ _ ⟨b,m',rfl,rfl,hb1,hb2⟩
     refine hK1 _ ?_;clear hK1 K1
     (repeat (first|refine gO rfl ?_|(refine gR fun K1 hK1=>?_;simp only [go_sem,↓reduceIte,reduceCtorEq,nA,nB,nC,nD,nE,nF]<;>and_intros<;>(apply hK1;clear hK1 K1))))
     simp only [Tryz.results198,go_sem,↓reduceIte,reduceCtorEq,nA,nB,nC,nD,nE,nF]
     exact ⟨_,_,Weak.refl _,Hp.le.refl _,b,m',rfl,by simp only [upd_upd],hb1,hb2⟩
    refine (hl42 _ hbt (by omega)).mono ?_
    rintro _ _ ⟨b,m',rfl,rfl,hb1,hb2⟩
    refine ⟨b,rfl,fun hb=>⟨m',rfl,?_⟩,fun hb=>?_⟩
    ·have:=hb1 hb
     simp only [List.sum_cons,List.sum_nil]
     omega
    ·obtain ⟨h6,h7,rfl⟩:=hb2 hb
     rw [e2,List.foldl_append]
     simp only [List.sum_cons,List.sum_nil,List.foldl_cons,List.foldl_nil,Int.add_zero]
     exact ⟨by rw [Int.add_assoc (m+1)],by omega,by omega⟩
   ·rintro _ h' (⟨j,hj,rfl,m',rfl,hP⟩|⟨rfl,rfl,hs1,hs2⟩)
    ·have hjk:j < kids.length:=by simpa using hj
     refine hK1 _ ?_;clear hK1 K1
     (repeat (first|refine gO rfl ?_|(refine gR fun K1 hK1=>?_;simp only [go_sem,↓reduceIte,reduceCtorEq,nA,nB,nC,nD,nE,nF]<;>and_intros<;>(apply hK1;clear hK1 K1))))
     simp only [Tryz.results139,go_sem,↓reduceIte,reduceCtorEq,nA,nB,nC,nD,nE,nF]
     refine ⟨_,_,Weak.refl _,Hp.le.refl _,true,m',rfl,rfl,fun _=>?_,fun h=>by cases h⟩
     rw [manyF_eq,deepF_eq]
     have h2:=sum_take_le kids manyF (fun x hx=>by have:=hpos x hx;omega) (j+1)
     have h3:=max_take kids deepF j hjk
     omega
    ·refine hK1 _ ?_;clear hK1 K1
     (repeat (first|refine gO rfl ?_|(refine gR fun K1 hK1=>?_;simp only [go_sem,↓reduceIte,reduceCtorEq,nA,nB,nC,nD,nE,nF]<;>and_intros<;>(apply hK1;clear hK1 K1))))
     simp only [Tryz.results139,go_sem,↓reduceIte,reduceCtorEq,nA,nB,nC,nD,nE,nF]
     simp only [List.length_map,List.take_length] at hs1 hs2 ⊢
     refine ⟨_,_,Weak.refl _,Hp.le.refl _,false,_,rfl,rfl,fun h=>(by cases h),fun _=>?_⟩
     rw [manyF_eq,deepF_eq]
     omega
def faultF (t:LT):Int:=if 200 < manyF t∨12 < deepF t then 2 else partF t
theorem g_check7 (d:Nat) (t:LT) (h0:Hp) (hb:KC d t) (hd:manyF t≤1000000000000000∧d≤1000):ACalls Tryz.prog 73 [.agg (encL t)] h0 (fun r h'=>r=.v (.int .i64 (faultF t))∧h'=h0):=by
 have hlen:=encL_len t
 have htk:List.take 6 (encL t)=encL t:=List.take_of_length_le (Nat.le_of_eq hlen)
 have hz:=size_bd d t hb
 refine gE Tryz.func73 rfl (by kernel_rfl) 8 rfl fun c=>?_
 (repeat (first|refine gO rfl ?_|(refine gM zM24 fun K1 hK1=>?_;simp only [go_sem,↓reduceIte,reduceCtorEq,nA,nB,nC,nD,nE,nF,hlen,htk]<;>and_intros<;>first|(apply hK1;clear hK1 K1)|skip)))
 intro i hi
 and_intros<;>first|(refine hK1 _ ?_;clear hK1 K1)|exact .inl trivial|exact .inr rfl|exact .inr True.intro|exact True.intro|omega
 (repeat (first|refine gO rfl ?_|(refine gM zM24 fun K1 hK1=>?_;simp only [go_sem,↓reduceIte,reduceCtorEq,nA,nB,nC,nD,nE,nF,hlen,htk]<;>and_intros)))
 refine (g_large d t _ i 0 1 hb hd (by omega) (by omega) (upd_same _ _ _)).mono ?_
 rintro _ _ ⟨b,m',rfl,rfl,hb1,hb2⟩
 refine hK1 _ ?_;clear hK1 K1
 (repeat ((refine gO rfl ?_)))
 have hle:Hp.le h0 { H:=upd h0.H i (some (oMany m')),T:=h0.T }:=⟨fun j=>by
  by_cases hj:j=i
  ·rw [hj];exact .inl hi
  ·exact .inr (upd_other _ _ hj).symm,fun _=>.inr rfl⟩
 refine awp_cond (t:=_) rfl (fun h1=>?_) (fun h1=>?_)
 ·(repeat (first|refine gO rfl ?_|(refine gM zM24 fun K1 hK1=>?_;simp only [go_sem,↓reduceIte,reduceCtorEq,nA,nB,nC,nD,nE,nF,hlen,htk]<;>and_intros<;>(apply hK1;clear hK1 K1))))
  simp only [Tryz.results73,go_sem,↓reduceIte,reduceCtorEq,nA,nB,nC,nD,nE,nF]
  exact ⟨_,h0,Weak.refl _,by simpa using hle,by rw [faultF,if_pos (by have:=hb1 h1;omega)],rfl⟩
 ·(repeat (first|refine gO rfl ?_|(refine gM zM24 fun K1 hK1=>?_;simp only [go_sem,↓reduceIte,reduceCtorEq,nA,nB,nC,nD,nE,nF,hlen,htk]<;>and_intros)))
  refine (g_part24 d t _ hb).mono ?_;rintro _ hz ⟨rfl,hh⟩;apply hK1;clear hK1 K1;rw [hh];clear hh hz
  (repeat (first|refine gO rfl ?_|(refine gM zM24 fun K1 hK1=>?_;simp only [go_sem,↓reduceIte,reduceCtorEq,nA,nB,nC,nD,nE,nF]<;>and_intros<;>(apply hK1;clear hK1 K1))))
  simp only [Tryz.results73,go_sem,↓reduceIte,reduceCtorEq,nA,nB,nC,nD,nE,nF]
  exact ⟨_,h0,Weak.refl _,by simpa using hle,by rw [faultF,if_neg (by have:=hb2 h1;omega)],rfl⟩
theorem mem_idsT {i c:Nat} {az:List AT} {x:Nat} (h:x∈idsT (.mk i c az)):x=i∨∃ j,j < az.length∧x∈idsT (az.getD j default):=by
 rw [idsT_eq] at h
 rcases List.mem_cons.1 h with h|h
 ·exact .inl h
 ·obtain ⟨l,hl,hx⟩:=List.mem_flatten.1 h
  obtain ⟨a,ha,rfl⟩:=List.mem_map.1 hl
  obtain ⟨j,hj,rfl⟩:=List.getElem_of_mem ha
  exact .inr ⟨j,hj,by rw [List.getD_eq_getElem?_getD,List.getElem?_eq_getElem hj];exact hx⟩
theorem mem_toksT {i c:Nat} {az:List AT} {x:Nat} (h:x∈toksT (.mk i c az)):x=c∨∃ j,j < az.length∧x∈toksT (az.getD j default):=by
 rw [toksT_eq] at h
 rcases List.mem_cons.1 h with h|h
 ·exact .inl h
 ·obtain ⟨l,hl,hx⟩:=List.mem_flatten.1 h
  obtain ⟨a,ha,rfl⟩:=List.mem_map.1 hl
  obtain ⟨j,hj,rfl⟩:=List.getElem_of_mem ha
  exact .inr ⟨j,hj,by rw [List.getD_eq_getElem?_getD,List.getElem?_eq_getElem hj];exact hx⟩
theorem RAt.ne {X:RK} {h:Hp}:∀ {d:Nat} {t:LT} {a:AT} {s:PS},RAt X h d t a s→(∀ i∈idsT a,h.H i≠none)∧(∀ c∈toksT a,h.T c≠none)
 | 0,_,_,_,h=>h.elim
 | d+1,.mk kind item long many kids shares,.mk i c az,.mk p cs ks,⟨⟨K,h1,hK⟩,h2,h3,h4⟩=>by
  refine ⟨fun x hx=>?_,fun x hx=>?_⟩
  ·rcases mem_idsT hx with rfl|⟨j,hj,hx⟩
   ·rw [h1];simp
   ·exact (h4 j (by omega)).ne.1 x hx
  ·rcases mem_toksT hx with rfl|⟨j,hj,hx⟩
   ·rw [h2];simp
   ·exact (h4 j (by omega)).ne.2 x hx
theorem RAt.cont {X:RK} {h:Hp}:∀ {d:Nat} {t:LT} {a:AT} {s:PS},RAt X h d t a s→∀ c∈toksT a,∃ xs,h.T c=some (.cont 1 xs)
 | 0,_,_,_,h=>h.elim
 | d+1,.mk kind item long many kids shares,.mk i c az,.mk p cs ks,⟨_,h2,h3,h4⟩=>fun x hx=>by
  rcases mem_toksT hx with rfl|⟨j,hj,hx⟩
  ·exact ⟨_,h2⟩
  ·exact (h4 j (by omega)).cont x hx
def cells9 (kind:Int) (item:ByteArray) (long many:Int) (kids:List LT) (shares:List Int) (K:AV) (p:Int) (c:Nat):List AV :=
 [.v (.int .i64 kind),.v (.string item),.v (.int .i64 long),.v (.int .i64 many),.row 6 (kids.map encL) none,.row 1 (shares.map encI) none,K,.v (.int .i64 p),.arr 1 c kids.length]
def NewI (X:RK) (d:Nat) (kids:List LT) (h:Hp) (i c:Nat) (az:List AT) (h':Hp):Prop :=
 (∀ l,l < az.length→RAt X h' d (kids.getD l default) (az.getD l default) (ps0 (kids.getD l default))∧(i ∉ idsT (az.getD l default)∧c ∉ toksT (az.getD l default)∧Sep d (az.getD l default)) ∧
  (∀ x∈idsT (az.getD l default),h.H x=none)∧(∀ x∈toksT (az.getD l default),h.T x=none)) ∧
 (∀ j l,j < az.length→l < az.length→l≠j→(∀ x∈idsT (az.getD j default),x ∉ idsT (az.getD l default))∧(∀ x∈toksT (az.getD j default),x ∉ toksT (az.getD l default))) ∧
 (∀ x,h.H x≠none→h'.H x=h.H x)∧(∀ x,h.T x≠none→h'.T x=h.T x)
def kidsK (h:Hp) (az:List AT) (K:AV) (T:Nat→Option TO):Prop:=az=[]∧K=.v (.slice none 0 0)∨∃ tk,az≠[]∧K=.row 1 (az.map fun a=>[.ptr a.id 0]) (some tk)∧T tk=some (.tail az.length)∧h.T tk=none
def NewR (X:RK) (d:Nat) (t:LT) (h:Hp) (r:AV) (h':Hp):Prop :=
 ∃ a,r=.ptr a.id 0∧RAt X h' d t a (ps0 t)∧Sep d a∧(∀ i∈idsT a,h.H i=none)∧(∀ c∈toksT a,h.T c=none)∧(∀ i,h.H i≠none→h'.H i=h.H i)∧(∀ k,h.T k≠none→h'.T k=h.T k)
theorem getD_snoc {α:Type} (l:List α) (x d:α) (j:Nat):(l++[x]).getD j d=if j=l.length then x else l.getD j d:=by
 simp only [List.getD_eq_getElem?_getD]
 split
 ·rename_i h;subst h;simp
 ·rename_i h
  by_cases hj:j < l.length
  ·rw [List.getElem?_append_left hj]
  ·rw [List.getElem?_eq_none (by simp;omega),List.getElem?_eq_none (by omega)]
theorem NewI.more {X:RK} {d:Nat} {kids:List LT} {h h1 h2:Hp} {i c:Nat} {az:List AT} (hI:NewI X d kids h i c az h1) (hi0:h.H i=none) (hi:h1.H i≠none) (hc:h1.T c≠none) {a:AT}
  (hR:RAt X h2 d (kids.getD az.length default) a (ps0 (kids.getD az.length default))) (hS:Sep d a) (hn1:∀ x∈idsT a,h1.H x=none) (hn2:∀ x∈toksT a,h1.T x=none) (hk1:∀ x,h1.H x≠none→x≠i→h2.H x=h1.H x) (hk2:∀ x xs,h1.T x=some (.cont 1 xs)→h2.T x=h1.T x) (hk3:∀ x,h.T x≠none→h2.T x=h.T x):NewI X d kids h i c (az++[a]) h2:=by
 obtain ⟨g1,g2,g3,g4⟩:=hI
 have o1:∀ x,h1.H x=none→h.H x=none:=fun x hx=>by
  cases e:h.H x with
  | none=>rfl
  | some y=>have:=g3 x (by rw [e];simp);rw [hx,e] at this;cases this
 have o2:∀ x,h1.T x=none→h.T x=none:=fun x hx=>by
  cases e:h.T x with
  | none=>rfl
  | some y=>have:=g4 x (by rw [e];simp);rw [hx,e] at this;cases this
 refine ⟨fun l hl=>?_,fun j l hj hl hne=>?_,fun x hx=>(hk1 x (by rw [g3 x hx];exact hx) (fun e=>by subst e;exact hx hi0)).trans (g3 x hx),hk3⟩
 ·rw [getD_snoc]
  split
  ·rename_i e
   subst e
   exact ⟨hR,⟨fun hx=>hi (hn1 _ hx),fun hx=>hc (hn2 _ hx),hS⟩,fun x hx=>o1 x (hn1 x hx),fun x hx=>o2 x (hn2 x hx)⟩
  ·rename_i e
   obtain ⟨f1,f2,f3,f4⟩:=g1 l (by simp at hl;omega)
   exact ⟨f1.frame (fun x hx=>hk1 x (f1.ne.1 x hx) (fun e=>by subst e;exact f2.1 hx)) (fun x hx=>let ⟨xs,e⟩:=f1.cont x hx;hk2 x xs e),f2,f3,f4⟩
 ·simp only [List.length_append,List.length_cons,List.length_nil] at hj hl
  rw [getD_snoc,getD_snoc]
  split<;>split
  ·omega
  ·have f1:=(g1 l (by omega)).1
   exact ⟨fun x hx hx2=>f1.ne.1 x hx2 (hn1 x hx),fun x hx hx2=>f1.ne.2 x hx2 (hn2 x hx)⟩
  ·have f1:=(g1 j (by omega)).1
   exact ⟨fun x hx hx2=>f1.ne.1 x hx (hn1 x hx2),fun x hx hx2=>f1.ne.2 x hx (hn2 x hx2)⟩
  ·exact g2 j l (by omega) (by omega) hne
abbrev zP17E:List Nat:=[0,1,2,3]
abbrev zP17P:List (Nat × List Nat × List Nat):=[(4,[0],[5]),(6,[],[7])]
abbrev zP18E:List Nat:=[0,1,2,3,4,5]
abbrev zP18P:List (Nat × List Nat × List Nat):=[(6,[4],[7]),(8,[],[9,10]),(11,[],[])]
attribute [go_sem] zP17E zP17P zP18E zP18P
def XP:RK:=⟨fun t=>match t with|.mk _ _ _ _ _ shares=>[.v (.int .i64 shares.sum)],fun kind cs=>if kind=4 then cs else List.replicate cs.length 0⟩
theorem upd_self {α:Type} {f:Nat→Option α} {i:Nat} {x:Option α} (h:f i=x):upd f i x=f:=by
 funext j
 by_cases hj:j=i
 ·subst hj;rw [upd_same,h]
 ·rw [upd_other _ _ hj]
theorem sum_nb:∀ (l:List Int),(∀ x∈l,NB x)→-(l.length * 5000000000000000)≤l.sum∧l.sum≤l.length * 5000000000000000
 | [],_=>by simp
 | x :: l,h=>by
  have h1:=h x (by simp)
  have h2:=sum_nb l fun y hy=>h y (by simp [hy])
  unfold NB at h1
  simp only [List.sum_cons,List.length_cons]
  omega
def NewPI (d:Nat) (kind:Int) (item:ByteArray) (long many:Int) (kids:List LT) (shares:List Int) (h:Hp) (i c:Nat) (g:Nat) (s:St):Prop :=
 ∃ (az:List AT) (K:AV) (h':Hp),g+az.length=kids.length∧NewI XP d kids h i c az h'∧kidsK h az K h'.T∧h'.H i=some (.cells (cells9 kind item long many kids shares K 0 c++[.v (.int .i64 0)]))∧h'.T c=some (.cont 1 ((kids.map fun _=>(0:Int)).map encI)) ∧
  s=⟨(AV.junk :: ((.ref [.v (.int .i64 kind),.v (.string item),.v (.int .i64 long),.v (.int .i64 many),.row 6 (kids.map encL) none,.row 1 (shares.map encI) none] 0) :: AV.junk :: ((.ptr i 0) :: (jnk 12 ((.row 6 (kids.map encL) none) :: (.v (.int .i64 kids.length)) :: (.v (.int .i64 az.length)) :: (jnk 32 [])))))),[],h'⟩
theorem g_newPart:∀ (d:Nat) (t:LT) (h:Hp),KC d t→ACalls Tryz.prog 75 [.agg (encL t)] h (NewR XP d t h)
 | 0,_,_,hb=>hb.elim
 | d+1,.mk kind item long many kids shares,h,hb=>by
  obtain ⟨b1,b2,b3,b4,b5,b6,b7,b8⟩:=id hb
  simp only [encL_eq]
  refine gE Tryz.func75 rfl (by kernel_rfl) 50 rfl fun c=>?_
  (repeat (first|refine gO rfl ?_|((first|refine gM zM25 ?_|((with_reducible refine xS ?_);refine uD 1 zM25 zP17E zP17P 51 rfl (by kernel_rfl) ?_))<;>((try with_reducible intro K1 hK1);simp only [go_sem,↓reduceIte,reduceCtorEq,nA,nB,nC,nD,nE,nF,Int.toNat_natCast]<;>and_intros<;>first|(apply hK1;clear hK1 K1)|(intros;(omega))|skip))))
  intro c0 hc0
  refine hK1 _ ?_;clear hK1 K1
  (repeat (((first|refine gM zM25 ?_|(with_reducible refine wM ?_ ?_))<;>((try with_reducible intro K1 hK1);simp only [go_sem,↓reduceIte,reduceCtorEq,nA,nB,nC,nD,nE,nF,Int.toNat_natCast]<;>and_intros<;>first|(apply hK1;clear hK1 K1)|(intros;first|decide|(simp_all<;>omega))|skip))))
  intro i hi
  refine hK1 _ ?_;clear hK1 K1
  (repeat (first|refine gO rfl ?_|((first|refine gM zM25 ?_|(with_reducible refine wM ?_ ?_))<;>((try with_reducible intro K1 hK1);simp only [go_sem,↓reduceIte,reduceCtorEq,nA,nB,nC,nD,nE,nF,Int.toNat_natCast]<;>and_intros<;>(apply hK1;clear hK1 K1)))))
  have hrep:List.replicate kids.length [AV.v (.int .i64 0)]=(kids.map fun _=>(0:Int)).map encI:=by
   rw [List.map_map,← List.map_const];rfl
  refine awp_loopC (rl false [1,1,1,1,12,3,32]) 0 (fun g s=>NewPI d kind item long many kids shares h i c0 g s) kids.length ⟨[],_,_,by simp,⟨fun l hl=>by simp at hl,fun j l hj=>by simp at hj,fun x hx=>upd_other _ _ (fun e=>by subst e;exact hx hi),fun x hx=>upd_other _ _ (fun e=>by subst e;exact hx hc0)⟩,.inl ⟨rfl,rfl⟩,upd_same _ _ _,by rw [← hrep];exact upd_same _ _ _,rfl⟩ ?_
  rintro g _ ⟨az,K,h',hg,hI,hK,hH,hT,rfl⟩
  have hH0:h'.H i=some (.cells [.v (.int .i64 kind),.v (.string item),.v (.int .i64 long),.v (.int .i64 many),.row 6 (kids.map encL) none,.row 1 (shares.map encI) none,K,.v (.int .i64 0),.arr 1 c0 kids.length,.v (.int .i64 0)]):=hH
  (repeat (first|refine gO rfl ?_|((refine gM zM25 fun K1 hK1=>?_;simp only [go_sem,↓reduceIte,reduceCtorEq,nA,nB,nC,nD,nE,nF]<;>and_intros<;>(apply hK1;clear hK1 K1)))))
  refine awp_cond (t:=_) rfl (fun h6=>?_) (fun h6=>?_)
  ·simp only [decide_eq_true_eq] at h6
   have hjk:az.length < kids.length:=by omega
   have hge:(kids.map encL).getD az.length []=encL (kids.getD az.length default):=getD_enc encL kids az.length default hjk
   have hmem:=getD_mem' kids az.length default hjk
   have hbt:=b8 _ hmem
   have hlen:=encL_len (kids.getD az.length default)
   have htk:List.take 6 (encL (kids.getD az.length default))=encL (kids.getD az.length default):=List.take_of_length_le (Nat.le_of_eq hlen)
   have hdr:List.drop 6 (encL (kids.getD az.length default))=[]:=List.drop_of_length_le (Nat.le_of_eq hlen)
   obtain ⟨jn,hjn⟩:∃ jn,az.length=jn:=⟨_,rfl⟩
   rw [hjn] at hjk hge hmem hbt hlen htk hdr h6 hg ⊢
   rcases hK with ⟨rfl,rfl⟩|⟨tk,hne,rfl,htkT,htk0⟩
   ·(repeat (first|refine gO rfl ?_|((first|refine gM zM25 ?_|((with_reducible refine xR ?_);refine uE 5 zM25 zP18E zP18P 51 rfl (by kernel_rfl) ?_))<;>((try with_reducible intro K1 hK1);simp only [go_sem,↓reduceIte,reduceCtorEq,nA,nB,nC,nD,nE,nF,Int.toNat_natCast,hge,hlen,htk,hdr,hH0]<;>and_intros<;>first|(apply hK1;clear hK1 K1)|(intros;(omega))|skip))))
    refine (g_newPart d (kids.getD jn default) h' hbt).mono ?_
    rintro _ h2 ⟨a,rfl,hR,hS,hn1,hn2,hk1,hk2⟩
    have hH2:=(hk1 i (by rw [hH0];simp)).trans hH0
    have hT2:=(hk2 c0 (by rw [hT];simp)).trans hT
    refine hK1 _ ?_;clear hK1 K1
    (repeat (((first|refine gM zM25 ?_|(with_reducible refine wM ?_ ?_))<;>((try with_reducible intro K1 hK1);simp only [go_sem,↓reduceIte,reduceCtorEq,nA,nB,nC,nD,nE,nF,Int.toNat_natCast,hge,hlen,htk,hdr,hH2]<;>and_intros<;>first|(apply hK1;clear hK1 K1)|(intros;first|decide|(simp_all<;>omega))|skip))))
    intro tk htkn
    refine hK1 _ ?_;clear hK1 K1
    replace htkn:h2.T tk=none:=htkn
    (repeat (first|refine gO rfl ?_|((first|refine gM zM25 ?_|(with_reducible refine wM ?_ ?_))<;>((try with_reducible intro K1 hK1);simp only [go_sem,↓reduceIte,reduceCtorEq,nA,nB,nC,nD,nE,nF,Int.toNat_natCast,hge,hlen,htk,hdr,hH2]<;>and_intros<;>first|(apply hK1;clear hK1 K1)|(intros;(omega))))))
    have htk1:h'.T tk=none:=Classical.byContradiction fun hn=>by have:=hk2 tk hn;rw [htkn] at this;exact hn this.symm
    have htk0:h.T tk=none:=Classical.byContradiction fun hn=>by have:=hI.2.2.2 tk hn;rw [htk1] at this;exact hn this.symm
    have hfr:∀ (Y:AO) (n:Nat) (tk:Nat),(∀ xs,h2.T tk≠some (.cont 1 xs))→RAt XP { H:=upd h2.H i (some Y),T:=upd h2.T tk (some (.tail n)) } d (kids.getD jn default) a (ps0 (kids.getD jn default)):=fun Y n tk htk=>hR.frame (fun x hx=>upd_other _ _ (fun e=>by subst e;exact absurd (hn1 _ hx) (by rw [hH0];simp))) (fun x hx=>upd_other _ _ (fun e=>by subst e;obtain ⟨xs,e2⟩:=hR.cont _ hx;exact htk xs e2))
    refine ⟨g - 1,by omega,([]:List AT)++[a],.row 1 ((([]:List AT)++[a]).map fun a=>[.ptr a.id 0]) (some tk),{ H:=upd h2.H i (some (.cells (cells9 kind item long many kids shares (.row 1 ((([]:List AT)++[a]).map fun a=>[.ptr a.id 0]) (some tk)) 0 c0++[.v (.int .i64 0)]))),T:=upd h2.T tk (some (.tail 1)) },by simp at hjn hg ⊢;omega,NewI.more (c:=c0) (az:=([]:List AT)) hI hi (by rw [hH0];simp) (by rw [hT];simp) (by rw [hjn];exact hfr _ 1 tk (fun xs e=>by rw [htkn] at e;cases e)) hS hn1 hn2 (fun x hx hxi=>(upd_other _ _ hxi).trans (hk1 x hx)) (fun x xs hx=>(upd_other _ _ (fun e=>by subst e;exact (by have:=hk2 _ (show h'.T _≠none by rw [hx];simp);rw [hx,htkn] at this;cases this))).trans (hk2 x (by rw [hx];simp))) (fun x hx=>(upd_other _ _ (fun e=>by subst e;exact hx htk0)).trans ((hk2 x (by rw [hI.2.2.2 x hx];exact hx)).trans (hI.2.2.2 x hx))),
     .inr ⟨tk,by simp,rfl,by rw [show (([]:List AT)++[a]).length=1 from rfl];exact upd_same _ _ _,htk0⟩,upd_same _ _ _,(upd_other _ _ (fun e=>by subst e;exact (by rw [hT2] at htkn;cases htkn))).trans hT2,by subst hjn;rfl⟩
   ·(repeat (first|refine gO rfl ?_|((first|refine gM zM25 ?_|((with_reducible refine xR ?_);refine uE 5 zM25 zP18E zP18P 51 rfl (by kernel_rfl) ?_))<;>((try with_reducible intro K1 hK1);simp only [go_sem,↓reduceIte,reduceCtorEq,nA,nB,nC,nD,nE,nF,Int.toNat_natCast,hge,hlen,htk,hdr,hH0]<;>and_intros<;>first|(apply hK1;clear hK1 K1)|(intros;(omega))|skip))))
    refine (g_newPart d (kids.getD jn default) h' hbt).mono ?_
    rintro _ h2 ⟨a,rfl,hR,hS,hn1,hn2,hk1,hk2⟩
    have hH2:=(hk1 i (by rw [hH0];simp)).trans hH0
    have hT2:=(hk2 c0 (by rw [hT];simp)).trans hT
    refine hK1 _ ?_;clear hK1 K1
    have htk2:=(hk2 tk (by rw [htkT];simp)).trans htkT
    (repeat (first|refine gO rfl ?_|((first|refine gM zM25 ?_|(with_reducible refine wM ?_ ?_))<;>((try with_reducible intro K1 hK1);simp only [go_sem,↓reduceIte,reduceCtorEq,nA,nB,nC,nD,nE,nF,Int.toNat_natCast,hge,hlen,htk,hdr,hH2,htk2]<;>and_intros<;>first|(apply hK1;clear hK1 K1)|(intros;first|omega|decide|(simp_all<;>omega))))))
    have hfr:∀ (Y:AO) (n:Nat) (tk:Nat),(∀ xs,h2.T tk≠some (.cont 1 xs))→RAt XP { H:=upd h2.H i (some Y),T:=upd h2.T tk (some (.tail n)) } d (kids.getD jn default) a (ps0 (kids.getD jn default)):=fun Y n tk htk=>hR.frame (fun x hx=>upd_other _ _ (fun e=>by subst e;exact absurd (hn1 _ hx) (by rw [hH0];simp))) (fun x hx=>upd_other _ _ (fun e=>by subst e;obtain ⟨xs,e2⟩:=hR.cont _ hx;exact htk xs e2))
    have hrow:az.map (fun a:AT=>[AV.ptr a.id 0])++[[AV.ptr a.id 0]]=(az++[a]).map (fun a:AT=>[AV.ptr a.id 0]):=by simp
    rw [hrow]
    refine ⟨g - 1,by omega,az++[a],.row 1 ((az++[a]).map fun a=>[.ptr a.id 0]) (some tk),{ H:=upd h2.H i (some (.cells (cells9 kind item long many kids shares (.row 1 ((az++[a]).map fun a=>[.ptr a.id 0]) (some tk)) 0 c0++[.v (.int .i64 0)]))),T:=upd h2.T tk (some (.tail (az.length+1))) },by simp at hjn hg ⊢;omega,NewI.more (c:=c0) (az:=az) hI hi (by rw [hH0];simp) (by rw [hT];simp) (by rw [hjn];exact hfr _ (jn+1) tk (fun xs e=>by rw [htk2] at e;cases e)) hS hn1 hn2 (fun x hx hxi=>(upd_other _ _ hxi).trans (hk1 x hx)) (fun x xs hx=>(upd_other _ _ (fun e=>by subst e;exact (by rw [htkT] at hx;cases hx))).trans (hk2 x (by rw [hx];simp))) (fun x hx=>(upd_other _ _ (fun e=>by subst e;exact hx htk0)).trans ((hk2 x (by rw [hI.2.2.2 x hx];exact hx)).trans (hI.2.2.2 x hx))),
     .inr ⟨tk,by simp,rfl,by rw [show (az++[a]).length=az.length+1 by simp];exact upd_same _ _ _,htk0⟩,upd_same _ _ _,(upd_other _ _ (fun e=>by subst e;exact (by rw [hT2] at htk2;cases htk2))).trans hT2,by rw [show ((az++[a]).length:Int)=(jn:Int)+1 by simp;omega];rfl⟩
  ·simp only [decide_eq_false_iff_not] at h6
   have hjk:az.length=kids.length:=by omega
   have hK':kidsC az K:=by
    rcases hK with ⟨rfl,rfl⟩|⟨tk,_,rfl,_,_⟩
    ·exact .inl ⟨rfl,rfl⟩
    ·exact .inr ⟨some tk,rfl⟩
   clear hK hH0
   (repeat ((refine gQ rfl ?_)))
   refine awp_seq ?_
   (repeat (first|refine gO rfl ?_|((refine gM zM25 fun K1 hK1=>?_;simp only [go_sem,↓reduceIte,reduceCtorEq,nA,nB,nC,nD,nE,nF]<;>and_intros<;>(apply hK1;clear hK1 K1)))))
   refine awp_loopC (rl false [3,1,31,3,13]) 0 (fun g s=>∃ j:Nat,g+j=shares.length∧s=⟨((jnk 3 ((.ptr i 0) :: (jnk 31 ((.row 1 (shares.map encI) none) :: (.v (.int .i64 shares.length)) :: (.v (.int .i64 j)) :: (jnk 13 [])))))),[],
    { H:=upd h'.H i (some (.cells (cells9 kind item long many kids shares K 0 c0++[.v (.int .i64 (shares.take j).sum)]))),T:=h'.T }⟩) shares.length ⟨0,by omega,?_⟩ ?_
   ·have e0:({ H:=upd h'.H i (some (.cells (cells9 kind item long many kids shares K 0 c0++[.v (.int .i64 (shares.take 0).sum)]))),T:=h'.T }:Hp)=h':=by
     show (⟨upd h'.H i (some (.cells (cells9 kind item long many kids shares K 0 c0++[.v (.int .i64 0)]))),h'.T⟩:Hp)=h'
     rw [upd_self hH]
    rw [e0];rfl
   rintro g _ ⟨j,hj,rfl⟩
   have hnb:=sum_nb (shares.take j) fun x hx=>b7 x (List.mem_of_mem_take hx)
   have hjl:(shares.take j).length≤1000:=by simp;omega
   have hH1:(upd h'.H i (some (AO.cells (cells9 kind item long many kids shares K 0 c0++[.v (.int .i64 (shares.take j).sum)])))) i=some (.cells [.v (.int .i64 kind),.v (.string item),.v (.int .i64 long),.v (.int .i64 many),.row 6 (kids.map encL) none,.row 1 (shares.map encI) none,K,.v (.int .i64 0),.arr 1 c0 kids.length,.v (.int .i64 (shares.take j).sum)]):=upd_same _ _ _
   (repeat (first|refine gO rfl ?_|((refine gM zM25 fun K1 hK1=>?_;simp only [go_sem,↓reduceIte,reduceCtorEq,nA,nB,nC,nD,nE,nF]<;>and_intros<;>(apply hK1;clear hK1 K1)))))
   refine awp_cond (t:=_) rfl (fun h7=>?_) (fun h7=>?_)
   ·simp only [decide_eq_true_eq] at h7
    have hjs:j < shares.length:=by omega
    have hgs:(shares.map encI).getD j []=encI (shares.getD j 0):=getD_enc encI shares j 0 hjs
    have hms:=b7 _ (getD_mem' shares j 0 hjs)
    have e1:(shares.take (j+1)).sum=(shares.take j).sum+shares.getD j 0:=by
     rw [List.take_add_one,List.getD_eq_getElem?_getD,List.getElem?_eq_getElem hjs,List.sum_append];simp only [Option.toList_some,List.sum_cons,List.sum_nil,Option.getD_some];omega
    have hb2:NB (shares.getD j 0):=hms
    unfold NB at hb2
    (repeat (first|refine gO rfl ?_|((refine gM zM25 fun K1 hK1=>?_;simp only [go_sem,↓reduceIte,reduceCtorEq,nA,nB,nC,nD,nE,nF,Int.toNat_natCast,hgs,encI,cells9]<;>and_intros<;>first|(apply hK1;clear hK1 K1)|(intros;(omega))))))
    refine ⟨g - 1,by omega,j+1,by omega,?_⟩
    rw [e1];rfl
   ·simp only [decide_eq_false_iff_not] at h7
    have hjs:j=shares.length:=by omega
    subst hjs
    rw [List.take_length]
    (repeat (first|refine gO rfl ?_|((refine gM zM25 fun K1 hK1=>?_;simp only [go_sem,↓reduceIte,reduceCtorEq,nA,nB,nC,nD,nE,nF]<;>and_intros<;>(apply hK1;clear hK1 K1)))))
    simp only [Tryz.results75,go_sem,↓reduceIte,reduceCtorEq,nA,nB,nC,nD,nE,nF]
    obtain ⟨g1,g2,g3,g4⟩:=hI
    refine ⟨_,_,Weak.refl _,Hp.le.refl _,.mk i c0 az,rfl,?_,?_,?_,?_,fun x hx=>(upd_other _ _ (fun e=>by subst e;exact hx hi)).trans (g3 x hx),g4⟩
    ·rw [ps0_eq]
     have hcf:XP.cf kind (kids.map fun _=>(0:Int))=kids.map fun _=>(0:Int):=by
      simp only [XP]
      split
      ·rfl
      ·rw [List.length_map,← List.map_const];rfl
     refine ⟨⟨K,upd_same _ _ _,hK'⟩,by rw [hcf];exact hT,by rw [hcf];simp;omega,fun j hj=>?_⟩
     have e:(kids.map ps0).getD j default=ps0 (kids.getD j default):=by
      rw [List.getD_eq_getElem?_getD,List.getD_eq_getElem?_getD,List.getElem?_map,List.getElem?_eq_getElem hj];rfl
     rw [e]
     exact (g1 j (by omega)).1.frame (fun x hx=>upd_other _ _ (fun e=>by subst e;exact (g1 j (by omega)).2.1.1 hx)) (fun _ _=>rfl)
    ·exact fun j hj=>⟨(g1 j hj).2.1,fun l hl hne=>g2 j l hj hl hne⟩
    ·intro x hx
     rcases mem_idsT hx with rfl|⟨j,hj,hx⟩
     ·exact hi
     ·exact (g1 j hj).2.2.1 x hx
    ·intro x hx
     rcases mem_toksT hx with rfl|⟨j,hj,hx⟩
     ·exact hc0
     ·exact (g1 j hj).2.2.2 x hx
theorem mul_bd {a b A B:Int} (ha:0≤a∧a≤A) (hb:0≤b∧b≤B):0≤a * b∧a * b≤A * B :=
 ⟨Int.mul_nonneg ha.1 hb.1,Int.mul_le_mul ha.2 hb.2 hb.1 (by omega)⟩
theorem sum_take_succ (l:List Int) (j:Nat) (h:j < l.length):(l.take (j+1)).sum=(l.take j).sum+l.getD j 0:=by
 rw [List.take_add_one,List.getD_eq_getElem?_getD,List.getElem?_eq_getElem h,List.sum_append];simp only [Option.toList_some,List.sum_cons,List.sum_nil,Option.getD_some];omega
theorem sum_01:∀ (l:List Int),(∀ x∈l,1≤x∧x≤1000)→0≤l.sum∧l.sum≤l.length * 1000
 | [],_=>by simp
 | x :: l,h=>by
  have h1:=h x (by simp)
  have h2:=sum_01 l fun y hy=>h y (by simp [hy])
  simp only [List.sum_cons,List.length_cons]
  omega
abbrev zP19E:List Nat:=[0,1,2,3,4,5,6,7,8,9,10,11,12,13,14,15,16,17,18,19,20]
abbrev zP19P:List (Nat × List Nat × List Nat):=[]
abbrev zP1AE:List Nat:=[0,1,2,3,4,5,6,7,8,9,10]
abbrev zP1AP:List (Nat × List Nat × List Nat):=[]
attribute [go_sem] zP19E zP19P zP1AE zP1AP
theorem g_behind45 (kind:Int) (item:ByteArray) (long many:Int) (kr:AV) (shares:List Int) (K:AV) (p:Int) (i c0:Nat) (cs:List Int) (h:Hp) (hH:h.H i=some (.cells [.v (.int .i64 kind),.v (.string item),.v (.int .i64 long),.v (.int .i64 many),kr,.row 1 (shares.map encI) none,K,.v (.int .i64 p),.arr 1 c0 shares.length,.v (.int .i64 shares.sum)]))
  (hT:h.T c0=some (.cont 1 (cs.map encI))) (hl:cs.length=shares.length) (hl2:shares.length≤1000) (hs:∀ x∈shares,1≤x∧x≤1000) (hp:0≤p∧p≤1000000) (hc:∀ x∈cs,0≤x∧x≤1000000) :
  ACalls Tryz.prog 141 [.ptr i 0] h (fun r h'=>r=.v (.int .i64 (nextF shares p cs))∧h'=h):=by
 refine gE Tryz.func141 rfl (by kernel_rfl) 49 rfl fun c=>?_
 (repeat (first|refine gQ rfl ?_|((((with_reducible refine yS ?_);refine awp_keep zK21 100 (kS ?_)))<;>((try with_reducible intro K1 hK1);simp only [go_sem,↓reduceIte,reduceCtorEq,nA,nB,nC,nD,nE,nF,hH,nG,nH,nI]<;>and_intros<;>(apply hK1;clear hK1 K1)))))
 refine awp_seq ?_
 (repeat (first|refine gO rfl ?_|((((with_reducible refine yS ?_);refine awp_keep zK21 100 (kS ?_)))<;>((try with_reducible intro K1 hK1);simp only [go_sem,↓reduceIte,reduceCtorEq,nA,nB,nC,nD,nE,nF,hH,nG,nH,nI]<;>and_intros<;>(apply hK1;clear hK1 K1)))))
 refine awp_loopC (rl false [0,1,2,2,7,3,35]) 0 (fun g s=>∃ (j:Nat) (m:Int),g+j=shares.length∧(j≠0→m=shareV shares p cs (bestTo (shareV shares p cs) j))∧(-10000000000000≤m∧m≤10000000000000) ∧
  s=⟨((.ptr i 0) :: AV.junk :: AV.junk :: ((.v (.int .i64 (bestTo (shareV shares p cs) j))) :: (.v (.int .i64 m)) :: (jnk 7 ((.row 1 (shares.map encI) none) :: (.v (.int .i64 shares.length)) :: (.v (.int .i64 j)) :: (jnk 35 []))))),[],h⟩) shares.length ⟨0,0,by omega,fun h=>absurd rfl h,by omega,rfl⟩ ?_
 rintro g _ ⟨j,m,hj,hm,hmb,rfl⟩
 (repeat (first|refine gO rfl ?_|((((with_reducible refine yS ?_);refine awp_keep zK21 100 (kS ?_)))<;>((try with_reducible intro K1 hK1);simp only [go_sem,↓reduceIte,reduceCtorEq,nA,nB,nC,nD,nE,nF,hH,nG,nH,nI]<;>and_intros<;>(apply hK1;clear hK1 K1)))))
 refine awp_cond (t:=_) rfl (fun h1=>?_) (fun h1=>?_)
 ·simp only [decide_eq_true_eq] at h1
  have hjs:j < shares.length:=by omega
  have e2:bestTo (shareV shares p cs) (j+1)=if shareV shares p cs j > shareV shares p cs (bestTo (shareV shares p cs) j) then j else bestTo (shareV shares p cs) j:=rfl
  have e0:j=0→bestTo (shareV shares p cs) (j+1)=j:=fun h=>by subst h;simp [bestTo]
  have e2t:j≠0→m < shareV shares p cs j→bestTo (shareV shares p cs) (j+1)=j:=fun h0 h=>by rw [e2,if_pos (by rw [hm h0] at h;exact h)]
  have e2f:j≠0→¬ m < shareV shares p cs j→bestTo (shareV shares p cs) (j+1)=bestTo (shareV shares p cs) j:=fun h0 h=>by rw [e2,if_neg (by rw [hm h0] at h;exact h)]
  clear e2
  have hg:(shares.map encI).getD j []=encI (shares.getD j 0):=getD_enc encI shares j 0 hjs
  have hcj:(cs.map encI).getD j []=encI (cs.getD j 0):=getD_enc encI cs j 0 (by omega)
  have b1:=hs _ (getD_mem' shares j 0 hjs)
  have b3:=hc _ (getD_mem' cs j 0 (by omega))
  have hss:=sum_01 shares hs
  have m1:=mul_bd (a:=shares.getD j 0) (b:=p+1) (A:=1000) (B:=1000001) (by omega) (by omega)
  have m3:=mul_bd (a:=cs.getD j 0) (b:=shares.sum) (A:=1000000) (B:=1000000) (by omega) (by omega)
  have hv:shareV shares p cs j=shares.getD j 0 * (p+1) - cs.getD j 0 * shares.sum:=rfl
  (repeat (first|refine gO rfl ?_|((first|((with_reducible refine yS ?_);refine awp_keep zK21 100 (kS ?_))|((with_reducible refine xS ?_);refine awp_keep zK21 100 (uD 5 zM20 zP19E zP19P 50 rfl (by kernel_rfl) ?_)))<;>((try with_reducible intro K1 hK1);simp only [go_sem,↓reduceIte,reduceCtorEq,nA,nB,nC,nD,nE,nF,hH,hT,hl,Int.toNat_natCast,hg,hcj,encI,nG,nH,nI]<;>and_intros<;>first|(apply hK1;clear hK1 K1)|(intros;(omega))))))
  refine awp_cond (t:=_) rfl (fun h2=>?_) (fun h2=>?_)
  ·(repeat (first|refine gO rfl ?_|((((with_reducible refine yR ?_);refine awp_keep zK21 100 (kR ?_)))<;>((try with_reducible intro K1 hK1);simp only [go_sem,↓reduceIte,reduceCtorEq,nA,nB,nC,nD,nE,nF,nG,nH,nI]<;>and_intros<;>first|(apply hK1;clear hK1 K1)|(intros;(omega))))))
   have e3:bestTo (shareV shares p cs) (j+1)=j:=by
    simp only [Bool.or_eq_true,beq_iff_eq,decide_eq_true_eq] at h2
    by_cases h0:j=0
    ·exact e0 h0
    ·exact e2t h0 (by rw [hv];omega)
   exact ⟨g - 1,by omega,j+1,shares.getD j 0 * (p+1) - cs.getD j 0 * shares.sum,by omega,fun _=>by rw [e3,hv],by omega,by rw [e3];rfl⟩
  ·(repeat (first|refine gO rfl ?_|((((with_reducible refine yR ?_);refine awp_keep zK21 100 (kR ?_)))<;>((try with_reducible intro K1 hK1);simp only [go_sem,↓reduceIte,reduceCtorEq,nA,nB,nC,nD,nE,nF,nG,nH,nI]<;>and_intros<;>first|(apply hK1;clear hK1 K1)|(intros;(omega))))))
   simp only [Bool.or_eq_false_iff,beq_eq_false_iff_ne,decide_eq_false_iff_not] at h2
   have h0:j≠0:=by omega
   have e3:=e2f h0 (by rw [hv];omega)
   exact ⟨g - 1,by omega,j+1,m,by omega,fun _=>by rw [e3];exact hm h0,by omega,by rw [e3];rfl⟩
 ·simp only [decide_eq_false_iff_not] at h1
  have hjs:j=shares.length:=by omega
  subst hjs
  (repeat (first|refine gO rfl ?_|((((with_reducible refine yS ?_);refine awp_keep zK21 100 (kS ?_)))<;>((try with_reducible intro K1 hK1);simp only [go_sem,↓reduceIte,reduceCtorEq,nA,nB,nC,nD,nE,nF,nG,nH,nI]<;>and_intros<;>(apply hK1;clear hK1 K1)))))
  simp only [Tryz.results141,go_sem,↓reduceIte,reduceCtorEq,nA,nB,nC,nD,nE,nF]
  exact ⟨_,_,Weak.refl _,Hp.le.refl _,rfl,rfl⟩
theorem g_full28 (o k:Nat) (h:Hp) (xs:List (ByteArray × Int)) (hO:OutAt h o k [.v (.int .i64 5000)] xs):ACalls Tryz.prog 77 [.ptr o 0] h (fun r h'=>r=.v (.bool (decide (5000 < (xs.length:Int))))∧h'=h):=by
 have hH:h.H o=some (.cells [.row 2 (xs.map encStep) (some k),.v (.int .i64 5000)]):=hO.1
 refine gE Tryz.func77 rfl (by kernel_rfl) 12 rfl fun c=>?_
 (repeat (first|refine gO rfl ?_|((first|refine gR ?_|((with_reducible refine xS ?_);refine uD 1 zM20 zP1AE zP1AP 13 rfl (by kernel_rfl) ?_))<;>((try with_reducible intro K1 hK1);simp only [go_sem,↓reduceIte,reduceCtorEq,nA,nB,nC,nD,nE,nF,hH]<;>and_intros<;>(apply hK1;clear hK1 K1)))))
 simp only [Tryz.results77,go_sem,↓reduceIte,reduceCtorEq,nA,nB,nC,nD,nE,nF]
 exact ⟨_,_,Weak.refl _,Hp.le.refl _,rfl,rfl⟩
def FrP (a:AT) (o k:Nat) (h h':Hp):Prop:=(∀ i,i ∉ idsT a→i≠o→h'.H i=h.H i)∧(∀ c,c ∉ toksT a→c≠k→h'.T c=h.T c)
theorem FrP.trans {a:AT} {o k:Nat} {h h1 h2:Hp} (f:FrP a o k h h1) (g:FrP a o k h1 h2):FrP a o k h h2 :=
 ⟨fun i x y=>(g.1 i x y).trans (f.1 i x y),fun i x y=>(g.2 i x y).trans (f.2 i x y)⟩
theorem FrP.kid {i c:Nat} {az:List AT} {j:Nat} {o k:Nat} {h h':Hp} (hj:j < az.length) (f:FrP (az.getD j default) o k h h'):FrP (.mk i c az) o k h h' :=
 ⟨fun x hx ho=>f.1 x (fun h=>hx (idsT_kid hj h)) ho,fun x hx ho=>f.2 x (fun h=>hx (toksT_kid hj h)) ho⟩
theorem getD_setS {α:Type} (l:List α) (j:Nat) (x d:α) (h:j < l.length):(l.set j x).getD j d=x:=by rw [List.getD_eq_getElem?_getD,List.getElem?_set_self h];rfl
theorem getD_setN {α:Type} (l:List α) (j i:Nat) (x d:α) (h:j≠i):(l.set j x).getD i d=l.getD i d:=by rw [List.getD_eq_getElem?_getD,List.getElem?_set_ne h,← List.getD_eq_getElem?_getD]
theorem RAt.kid {X:RK} {h h':Hp} {d:Nat} {kind:Int} {item:ByteArray} {long many:Int} {kids:List LT} {shares:List Int} {i c:Nat} {az:List AT} {p:Int} {cs:List Int} {ks:List PS}
  (hR:RAt X h (d+1) (.mk kind item long many kids shares) (.mk i c az) (.mk p cs ks)) (hS:Sep (d+1) (.mk i c az)) {o k:Nat} (ho:o ∉ idsT (.mk i c az)) (hk:k ∉ toksT (.mk i c az)) {j:Nat} (hj:j < kids.length) {s':PS}
  (hj':RAt X h' d (kids.getD j default) (az.getD j default) s') (hf:FrP (az.getD j default) o k h h'):RAt X h' (d+1) (.mk kind item long many kids shares) (.mk i c az) (.mk p cs (ks.set j s')):=by
 obtain ⟨⟨K,h1,hK⟩,h2,⟨l1,l2,l3,l4⟩,h4⟩:=hR
 have hjz:j < az.length:=by omega
 have hSj:=hS j hjz
 refine ⟨⟨K,(hf.1 i hSj.1.1 (fun e=>ho (by rw [idsT_eq,e];simp))).trans h1,hK⟩,(hf.2 c hSj.1.2.1 (fun e=>hk (by rw [toksT_eq,e];simp))).trans h2,⟨l1,l2,l3,by simpa using l4⟩,fun l hl=>?_⟩
 by_cases hlj:j=l
 ·subst hlj
  rw [getD_setS _ _ _ _ (by omega)]
  exact hj'
 ·rw [getD_setN _ _ _ _ _ hlj]
  have hd:=hSj.2 l (by omega) (fun e=>hlj e.symm)
  exact (h4 l hl).frame (fun x hx=>hf.1 x (fun hx2=>hd.1 x hx2 hx) (fun e=>ho (by rw [← e];exact idsT_kid (by omega) hx))) (fun x hx=>hf.2 x (fun hx2=>hd.2 x hx2 hx) (fun e=>hk (by rw [← e];exact toksT_kid (by omega) hx)))
theorem RAt.tokNe {X:RK} {h:Hp} {d:Nat} {t:LT} {a:AT} {s:PS} (hR:RAt X h d t a s) {k n:Nat} (hk:h.T k=some (.tail n)):k ∉ toksT a:=fun hx=>by
 obtain ⟨xs,e⟩:=hR.cont k hx
 rw [hk] at e;cases e
def FOk (d:Nat) (kids:List LT) (n:Int) (a:List Int × List PS):Prop :=
 (a.1.length=kids.length∧a.2.length=kids.length)∧(∀ x∈a.1,0≤x∧x≤n)∧∀ j,j < kids.length→PSB d (kids.getD j default) (a.2.getD j default) n
theorem mem_set_or {l:List Int} {j:Nat} {v x:Int} (h:x∈l.set j v):x∈l∨x=v:=List.mem_or_eq_of_mem_set h
theorem stepU_ok {d:Nat} {f:LT→PS→PS × List (ByteArray × Int)} {kids:List LT} {n:Int} {a:(List Int × List PS) × List (ByteArray × Int)} (hf:FOk d kids n a.1) {i:Nat} (hi:i < kids.length) {m:Nat}
  (hm:(f (kids.getD i default) (a.1.2.getD i default)).2.length=m) (hm1:1≤m) (hp:PSB d (kids.getD i default) (f (kids.getD i default) (a.1.2.getD i default)).1 (n+m)):FOk d kids (n+m) (stepU f kids a i).1∧(stepU f kids a i).2.length=a.2.length+m:=by
 obtain ⟨⟨l1,l2⟩,h1,h2⟩:=hf
 refine ⟨⟨⟨by simp [stepU,l1],by simp [stepU,l2]⟩,fun x hx=>?_,fun j hj=>?_⟩,by simp only [stepU,List.length_append,hm]⟩
 ·rcases mem_set_or hx with h|h
  ·have:=h1 x h;omega
  ·have:=h1 _ (getD_mem' a.1.1 i 0 (by omega));omega
 ·simp only [stepU]
  by_cases hij:i=j
  ·subst hij;rw [getD_setS _ _ _ _ (by omega)];exact hp
  ·rw [getD_setN _ _ _ _ _ hij];exact (h2 j hj).mono (by omega)
theorem idxL_lt {kind p many:Int} {nk nx:Nat} (hk:1≤kind∧kind≤5) (hn:kind≠1→0 < nk) (hx:kind=4→nx < nk) (hp:0≤p):∀ i∈idxL kind p many nk nx,i < nk:=by
 intro i hi
 unfold idxL at hi
 split at hi
 ·simp at hi
 ·rename_i h1
  have h0:=hn h1
  split at hi
  ·simpa using hi
  ·split at hi
   ·simp only [List.mem_singleton] at hi
    subst hi
    have:=Int.tmod_lt_of_pos p (show (0:Int) < nk by omega)
    have:=Int.tmod_nonneg (nk:Int) hp
    omega
   ·split at hi
    ·simp only [List.mem_singleton] at hi;subst hi;exact hx (by assumption)
    ·have:=(List.mem_replicate.1 hi).2;omega
theorem idxL_ne {kind p many:Int} {nk nx:Nat} (hk:1≤kind∧kind≤5) (h1:kind≠1) (hn:0 < nk) (hm:kind=5→1≤many):idxL kind p many nk nx≠[]:=by
 unfold idxL
 rw [if_neg h1]
 split
 ·intro h;have:=congrArg List.length h;simp at this;omega
 ·split
  ·simp
  ·split
   ·simp
   ·intro h;have:=congrArg List.length h;simp at this;have:=hm (by omega);omega
def Fits:Nat→LT→PS→Prop
 | 0,_,_=>False
 | d+1,.mk _ _ _ _ kids _,.mk _ cs ks=>(cs.length=kids.length∧ks.length=kids.length)∧∀ j,j < kids.length→Fits d (kids.getD j default) (ks.getD j default)
theorem RAt.fits {X:RK} {h:Hp}:∀ {d:Nat} {t:LT} {a:AT} {s:PS},RAt X h d t a s→Fits d t s
 | 0,_,_,_,h=>h.elim
 | d+1,.mk ..,.mk ..,.mk ..,⟨_,_,h3,h4⟩=>⟨⟨h3.2.1,h3.2.2.2⟩,fun j hj=>(h4 j hj).fits⟩
theorem passU_ok:∀ (d:Nat) (t:LT) (s:PS) (n:Int),VL d t→Fits d t s→0≤n→PSB d t s n→1≤(passU d t s).2.length∧PSB d t (passU d t s).1 (n+(passU d t s).2.length)∧Fits d t (passU d t s).1
 | 0,_,_,_,h,_,_,_=>h.elim
 | d+1,.mk kind item long many kids shares,.mk p cs ks,n,hv,hft,hn,hb=>by
  obtain ⟨v1,v2,v3,v4,v5,v6,v7,v8⟩:=hv
  obtain ⟨⟨f1,f2⟩,f3⟩:=hft
  obtain ⟨c1,c2,c3⟩:=hb
  rw [passU_succ]
  have hnk:kind≠1→0 < kids.length:=fun h=>List.length_pos_iff.2 (v3 h)
  have hidx:=idxL_lt (many:=many) (nx:=nextF shares p cs) v1 hnk (fun h4=>by rw [← v5 h4];exact bestTo_lt _ _ (by rw [v5 h4];exact hnk (by omega))) c1.1
  have hne:=fun h=>idxL_ne (p:=p) (nx:=nextF shares p cs) v1 h (hnk h) (fun h5=>(v4 h5).2.1)
  have hnil:kind=1→idxL kind p many kids.length (nextF shares p cs)=[]:=fun h=>by unfold idxL;rw [if_pos h]
  generalize idxL kind p many kids.length (nextF shares p cs)=L at *
  -- the fold
  have key:∀ (L:List Nat),(∀ i∈L,i < kids.length)→∀ (a:(List Int × List PS) × List (ByteArray × Int)) (m:Int),0≤m→FOk d kids m a.1→(∀ j,j < kids.length→Fits d (kids.getD j default) (a.1.2.getD j default)) →
    FOk d kids (m+((L.foldl (stepU (passU d) kids) a).2.length - a.2.length)) (L.foldl (stepU (passU d) kids) a).1∧(∀ j,j < kids.length→Fits d (kids.getD j default) ((L.foldl (stepU (passU d) kids) a).1.2.getD j default)) ∧
    a.2.length+L.length≤(L.foldl (stepU (passU d) kids) a).2.length:=by
   intro L
   induction L with
   | nil=>intro _ a m _ ha hfi;exact ⟨by simpa using ha,hfi,by simp⟩
   | cons i L ih =>
    intro hL a m hm ha hfi
    have hi:=hL i (by simp)
    have hmem:=getD_mem' kids i default hi
    obtain ⟨g1,g2,g3⟩:=passU_ok d (kids.getD i default) (a.1.2.getD i default) m (v8 _ hmem) (hfi i hi) hm (ha.2.2 i hi)
    obtain ⟨s1,s2⟩:=stepU_ok (f:=passU d) ha hi rfl g1 g2
    have hfi2:∀ j,j < kids.length→Fits d (kids.getD j default) ((stepU (passU d) kids a i).1.2.getD j default):=fun j hj=>by
     simp only [stepU]
     by_cases hij:i=j
     ·subst hij;rw [getD_setS _ _ _ _ (by rw [ha.1.2];exact hi)];exact g3
     ·rw [getD_setN _ _ _ _ _ hij];exact hfi j hj
    obtain ⟨r1,r2,r3⟩:=ih (fun j hj=>hL j (by simp [hj])) (stepU (passU d) kids a i) _ (by omega) s1 hfi2
    simp only [List.foldl_cons]
    refine ⟨?_,r2,by simp only [List.length_cons];omega⟩
    have e:m+(((L.foldl (stepU (passU d) kids) (stepU (passU d) kids a i)).2.length:Int) - a.2.length)=m+((passU d (kids.getD i default) (a.1.2.getD i default)).2.length)+(((L.foldl (stepU (passU d) kids) (stepU (passU d) kids a i)).2.length:Int) - (stepU (passU d) kids a i).2.length):=by rw [s2];omega
    rw [e];exact r1
  obtain ⟨r1,r2,r3⟩:=key L hidx ((cs,ks),if kind=1 then [(item,long)] else []) n hn ⟨⟨f1,f2⟩,c2,c3⟩ f3
  have hlen:1≤(L.foldl (stepU (passU d) kids) ((cs,ks),if kind=1 then [(item,long)] else [])).2.length∧n+(((L.foldl (stepU (passU d) kids) ((cs,ks),if kind=1 then [(item,long)] else [])).2.length:Int) - (if kind=1 then [(item,long)] else []).length)≤n+(L.foldl (stepU (passU d) kids) ((cs,ks),if kind=1 then [(item,long)] else [])).2.length:=by
   by_cases h1:kind=1
   ·rw [hnil h1];simp [h1];omega
   ·have:=List.length_pos_iff.2 (hne h1)
    rw [if_neg h1] at r3 ⊢
    simp only [List.length_nil] at r3 ⊢
    omega
  refine ⟨hlen.1,⟨by simp only [];omega,fun x hx=>⟨(r1.2.1 x hx).1,Int.le_trans (r1.2.1 x hx).2 hlen.2⟩,fun j hj=>(r1.2.2 j hj).mono hlen.2⟩,⟨r1.1,r2⟩⟩
theorem RAt.count {X:RK} {h:Hp} {d:Nat} {kind:Int} {item:ByteArray} {long many:Int} {kids:List LT} {shares:List Int} {i c:Nat} {az:List AT} {p:Int} {cs cs':List Int} {ks:List PS}
  (hR:RAt X h (d+1) (.mk kind item long many kids shares) (.mk i c az) (.mk p cs ks)) (hS:Sep (d+1) (.mk i c az)) (hl:cs'.length=cs.length) (hl2:(X.cf kind cs').length=kids.length) :
  RAt X { h with T:=upd h.T c (some (.cont 1 ((X.cf kind cs').map encI))) } (d+1) (.mk kind item long many kids shares) (.mk i c az) (.mk p cs' ks):=by
 obtain ⟨h1,h2,⟨l1,l2,l3,l4⟩,h4⟩:=hR
 exact ⟨h1,upd_same _ _ _,⟨hl2,by omega,l3,l4⟩,fun j hj=>(h4 j hj).frame (fun _ _=>rfl) (fun x hx=>upd_other _ _ (fun e=>by subst e;exact (hS j (by omega)).1.2.1 hx))⟩
theorem RAt.hadOne {X:RK} {h:Hp} {d:Nat} {kind:Int} {item:ByteArray} {long many:Int} {kids:List LT} {shares:List Int} {i c:Nat} {az:List AT} {p p':Int} {cs:List Int} {ks:List PS} {K:AV}
  (hR:RAt X h (d+1) (.mk kind item long many kids shares) (.mk i c az) (.mk p cs ks)) (hS:Sep (d+1) (.mk i c az)) (hK:kidsC az K) :
  RAt X { h with H:=upd h.H i (some (.cells (cells9 kind item long many kids shares K p' c++X.ex (.mk kind item long many kids shares)))) } (d+1) (.mk kind item long many kids shares) (.mk i c az) (.mk p' cs ks):=by
 obtain ⟨h1,h2,⟨l1,l2,l3,l4⟩,h4⟩:=hR
 exact ⟨⟨K,upd_same _ _ _,hK⟩,h2,⟨l1,l2,l3,l4⟩,fun j hj=>(h4 j hj).frame (fun x hx=>upd_other _ _ (fun e=>by subst e;exact (hS j (by omega)).1.1 hx)) (fun _ _=>rfl)⟩
def LT.kd:LT→Int
 | .mk k _ _ _ _ _=>k
def LT.mn:LT→Int
 | .mk _ _ _ m _ _=>m
def LT.ks:LT→List LT
 | .mk _ _ _ _ l _=>l
def LT.hd (t:LT):LT:=t.ks.getD 0 default
def repK (n:Int) (l:List LT):LT:=.mk 5 ⟨#[]⟩ 0 n l []
def rowT (l:List LT):LT:=.mk 2 ⟨#[]⟩ 0 0 l []
def cnt (t:LT):Option (LT × Int):=if t.kd=1 then some (t,1) else if t.kd=5∧t.hd.kd=1 then some (t.hd,t.mn) else none
open Classical in
noncomputable def runN (it:LT):List LT→Int × Nat
 | []=>(0,0)
 | x :: xs=>match cnt x with
  | some (y,n)=>if y=it then (n+(runN it xs).1,(runN it xs).2+1) else (0,0)
  | none=>(0,0)
def manyT (it:LT) (n:Nat):List LT:=List.replicate (n / 100) (repK 100 [it])++if n % 100=0 then [] else if n % 100=1 then [it] else [repK (n % 100:Nat) [it]]
noncomputable def gathF:Nat→List LT→List LT
 | 0,_=>[]
 | _+1,[]=>[]
 | f+1,x :: xs=>match cnt x with
  | none=>x :: gathF f xs
  | some (it,n)=>manyT it (n+(runN it xs).1).toNat++gathF f (xs.drop (runN it xs).2)
noncomputable def gath (l:List LT):List LT:=gathF l.length l
def flatT (l:List LT):List LT:=l.flatMap fun k=>if k.kd=2 then k.ks else [k]
def gcdN:List Nat→Nat
 | []=>0
 | x :: xs=>Nat.gcd x (gcdN xs)
theorem foldl_gcd:∀ (l:List Nat) (a:Nat),l.foldl Nat.gcd a=Nat.gcd a (gcdN l)
 | [],a=>by simp [gcdN]
 | x :: xs,a=>by rw [List.foldl_cons,foldl_gcd xs,gcdN,Nat.gcd_assoc]
theorem gcdN_dvd:∀ (l:List Nat),∀ x∈l,gcdN l ∣ x
 | y :: ys,x,hx=>by
  rcases List.mem_cons.1 hx with rfl|h
  ·exact Nat.gcd_dvd_left _ _
  ·exact Nat.dvd_trans (Nat.gcd_dvd_right _ _) (gcdN_dvd ys x h)
def gcdI (l:List Int):Nat:=gcdN (l.map Int.toNat)
def divI (g:Nat) (l:List Int):List Int:=l.map fun x=>x / (g:Int)
theorem gcdI_pos {l:List Int} (h:∀ x∈l,1≤x) (hn:l≠[]):0 < gcdI l:=by
 cases l with
 | nil=>exact absurd rfl hn
 | cons x xs =>
  rw [gcdI,List.map_cons,gcdN]
  exact Nat.gcd_pos_of_pos_left _ (by have:=h x (by simp);omega)
theorem gcdI_dvd {l:List Int} (h:∀ x∈l,1≤x) {x:Int} (hx:x∈l):(gcdI l:Int) ∣ x:=by
 have h1:=gcdN_dvd (l.map Int.toNat) x.toNat (List.mem_map.2 ⟨x,hx,rfl⟩)
 have h2:((x.toNat:Nat):Int)=x:=by have:=h x hx;omega
 rw [← h2]
 exact Int.natCast_dvd_natCast.2 h1
def plainT:LT→Bool
 | .mk kind _ _ _ kids _=>kind != 3 && kind != 4 && (kids.map plainT).all id
def WF:LT→Prop
 | .mk kind item long many kids shares=>(1≤kind∧kind≤5)∧(kind=1→kids=[]∧shares=[]∧many=0)∧(kind≠1→item=⟨#[]⟩∧long=0∧kids≠[])∧(kind=5→kids.length=1∧1≤many∧many≤100)∧(kind≠5→many=0) ∧
   (kind=4→shares.length=kids.length)∧(kind≠4→shares=[])∧(∀ x∈shares,1≤x∧x≤1000)∧(NB long∧item.size≤2)∧∀ k∈kids,WF k
theorem WF_eq (kind:Int) (item:ByteArray) (long many:Int) (kids:List LT) (shares:List Int):WF (.mk kind item long many kids shares)=((1≤kind∧kind≤5)∧(kind=1→kids=[]∧shares=[]∧many=0)∧(kind≠1→item=⟨#[]⟩∧long=0∧kids≠[])∧(kind=5→kids.length=1∧1≤many∧many≤100)∧(kind≠5→many=0) ∧
   (kind=4→shares.length=kids.length)∧(kind≠4→shares=[])∧(∀ x∈shares,1≤x∧x≤1000)∧(NB long∧item.size≤2)∧∀ k∈kids,WF k):=by rw [WF]
open Classical in
noncomputable def stepT:LT→Option LT
 | .mk kind item long many kids shares =>
  if kind=1 then none
  else if kind=5 then if many=1 then some (kids.getD 0 default) else if (kids.getD 0 default).kd=5∧many * (kids.getD 0 default).mn≤100 then some (repK (many * (kids.getD 0 default).mn) (kids.getD 0 default).ks) else none
  else if kids.length=1 then some (kids.getD 0 default)
  else if kind=2 then if gath (flatT kids)=kids then none else some (rowT (gath (flatT kids)))
  else if kind=4 then if 1 < gcdI shares then some (.mk 4 item long many kids (divI (gcdI shares) shares)) else none
  else if plainT (kids.getD 0 default)=true∧∀ k∈kids,k=kids.getD 0 default then some (kids.getD 0 default) else none
def HS:LT→Prop
 | .mk kind item long many kids shares=>stepT (.mk kind item long many kids shares)=none∧∀ k∈kids,HS k
theorem HS_eq (kind:Int) (item:ByteArray) (long many:Int) (kids:List LT) (shares:List Int):HS (.mk kind item long many kids shares)=(stepT (.mk kind item long many kids shares)=none∧∀ k∈kids,HS k):=by rw [HS]
theorem HS.st {t:LT} (h:HS t):stepT t=none:=by cases t;rw [HS_eq] at h;exact h.1
theorem HS.kids {t:LT} (h:HS t):∀ k∈t.ks,HS k:=by cases t;rw [HS_eq] at h;exact h.2
theorem WF.kids {t:LT} (h:WF t):∀ k∈t.ks,WF k:=by cases t;rw [WF_eq] at h;exact h.2.2.2.2.2.2.2.2.2
theorem WF.ne {t:LT} (h:WF t) (hk:t.kd≠1):t.ks≠[]:=by
 cases t;rw [WF_eq] at h;exact (h.2.2.1 hk).2.2
theorem firstNZ_all:∀ (l:List Int),firstNZ l=0→∀ x∈l,x=0
 | [],_,x,hx=>by simp at hx
 | y :: l,h,x,hx=>by
  simp only [firstNZ] at h
  split at h
  ·rename_i h0
   rcases List.mem_cons.1 hx with rfl|hx
   ·exact h0
   ·exact firstNZ_all l h x hx
  ·rename_i h0;exact absurd h h0
theorem vl_of:∀ (d:Nat) (t:LT),KC d t→partF t=0→VL d t
 | 0,_,h,_=>h.elim
 | d+1,.mk kind item long many kids shares,hb,hp=>by
  obtain ⟨b1,b2,b3,b4,b5,b6,b7,b8⟩:=hb
  rw [partF_eq] at hp
  by_cases h1:outB kind 1 5
  ·rw [if_pos h1] at hp;omega
  rw [if_neg h1] at hp
  by_cases h2:formB kind item long many kids.length shares.length
  ·rw [if_pos h2] at hp;omega
  rw [if_neg h2] at hp
  by_cases h3:(kind == 1 && !keyB item)=true
  ·rw [if_pos h3] at hp;omega
  rw [if_neg h3] at hp
  by_cases h4:(kind == 1 && outB long 1 3600000)=true
  ·rw [if_pos h4] at hp;omega
  rw [if_neg h4] at hp
  by_cases h5:(kind == 5 && outB many 1 100)=true
  ·rw [if_pos h5] at hp;omega
  rw [if_neg h5] at hp
  by_cases h6:shares.any (fun n=>outB n 1 1000)
  ·rw [if_pos h6] at hp;omega
  rw [if_neg h6] at hp
  have hk:=firstNZ_all _ hp
  simp only [outB,Bool.or_eq_true,decide_eq_true_eq,not_or,Int.not_lt] at h1
  simp only [formB,Bool.or_eq_true,Bool.and_eq_true,beq_iff_eq,bne_iff_ne,ne_eq,not_or,not_and,Decidable.not_not] at h2
  simp only [outB,Bool.and_eq_true,beq_iff_eq,Bool.or_eq_true,decide_eq_true_eq,not_and,not_or,Int.not_lt] at h5
  obtain ⟨⟨⟨⟨⟨⟨g1,g2⟩,g3⟩,g4⟩,g5⟩,g6⟩,g7⟩:=h2
  refine ⟨by omega,fun h=>List.eq_nil_of_length_eq_zero (by have:=g1 h;omega),fun h hn=>by subst hn;exact g3 h rfl,fun h=>⟨by have:=g2 h;omega,(h5 h).1,(h5 h).2⟩,fun h=>by have:=g4 h;omega,fun n hn=>?_,⟨b5,b6⟩,fun k hkm=>vl_of d k (b8 k hkm) (hk _ (List.mem_map.2 ⟨k,hkm,rfl⟩))⟩
  have h7:outB n 1 1000=false:=by
   cases e:outB n 1 1000 with
   | false=>rfl
   | true=>exact absurd (List.any_eq_true.2 ⟨n,hn,e⟩) h6
  simp only [outB,Bool.or_eq_false_iff,decide_eq_false_iff_not,Int.not_lt] at h7
  exact h7
theorem psb0:∀ (d:Nat) (t:LT),PSB d t (ps0 t) 0
 | 0,_=>trivial
 | d+1,.mk kind item long many kids shares=>by
  rw [ps0_eq]
  refine ⟨by omega,fun x hx=>?_,fun j hj=>?_⟩
  ·obtain ⟨_,_,rfl⟩:=List.mem_map.1 hx;omega
  ·have e:(kids.map ps0).getD j default=ps0 (kids.getD j default):=by
    rw [List.getD_eq_getElem?_getD,List.getD_eq_getElem?_getD,List.getElem?_map,List.getElem?_eq_getElem hj];rfl
   rw [e];exact psb0 d _
def passesU (d:Nat) (t:LT):Nat→PS × List (ByteArray × Int)
 | 0=>(ps0 t,[])
 | n+1=>((passU d t (passesU d t n).1).1,(passesU d t n).2++(passU d t (passesU d t n).1).2)
theorem passesU_mono (d:Nat) (t:LT):∀ {m n:Nat},m≤n→(passesU d t m).2.length≤(passesU d t n).2.length
 | m,0,h=>by
  obtain rfl:m=0:=by omega
  exact Nat.le_refl _
 | m,n+1,h=>by
  by_cases e:m=n+1
  ·rw [e];exact Nat.le_refl _
  ·have:=passesU_mono d t (m:=m) (n:=n) (by omega)
   simp only [passesU,List.length_append];omega
theorem fits0:∀ (d:Nat) (t:LT),VL d t→Fits d t (ps0 t)
 | 0,_,h=>h.elim
 | d+1,.mk kind item long many kids shares,h=>by
  obtain ⟨_,_,_,_,_,_,_,v8⟩:=h
  rw [ps0_eq]
  refine ⟨⟨by simp,by simp⟩,fun j hj=>?_⟩
  have e:(kids.map ps0).getD j default=ps0 (kids.getD j default):=by
   rw [List.getD_eq_getElem?_getD,List.getD_eq_getElem?_getD,List.getElem?_map,List.getElem?_eq_getElem hj];rfl
  rw [e]
  exact fits0 d _ (v8 _ (getD_mem' kids j default hj))
theorem passesU_ok (d:Nat) (t:LT) (hv:VL d t):∀ n,PSB d t (passesU d t n).1 (passesU d t n).2.length∧Fits d t (passesU d t n).1∧n≤(passesU d t n).2.length
 | 0=>⟨psb0 d t,fits0 d t hv,Nat.zero_le _⟩
 | n+1=>by
  obtain ⟨h1,h2,h3⟩:=passesU_ok d t hv n
  obtain ⟨q1,q2,q3⟩:=passU_ok d t _ _ hv h2 (by omega) h1
  exact ⟨by simp only [passesU,List.length_append];exact_mod_cast q2,q3,by simp only [passesU,List.length_append];omega⟩
def everyF (kind:Int) (nk:Nat) (shares:List Int):Int:=if kind=3 then nk else if kind=4 then shares.sum / gcdI shares else 1
def homeF:Nat→LT→PS→Bool
 | 0,_,_=>true
 | d+1,.mk kind _ _ _ kids shares,.mk p _ ks=>(p.tmod (everyF kind kids.length shares) == 0) && (List.range kids.length).all fun j=>homeF d (kids.getD j default) (ks.getD j default)
theorem gcdI_le_sum {l:List Int} (h:∀ x∈l,1≤x∧x≤1000) (hn:l≠[]):(gcdI l:Int)≤l.sum:=by
 cases l with
 | nil=>exact absurd rfl hn
 | cons x xs =>
  have h1:=Int.le_of_dvd (by have:=(h x (by simp)).1;omega) (gcdI_dvd (fun y hy=>(h y hy).1) (List.mem_cons_self (a:=x) (l:=xs)))
  have:∀ l:List Int,(∀ x∈l,1≤x∧x≤1000)→0≤l.sum:=fun l=>by
   induction l with
   | nil=>simp
   | cons y l ih=>intro h;have:=h y (by simp);have:=ih fun z hz=>h z (by simp [hz]);simp only [List.sum_cons];omega
  have:=this xs fun z hz=>h z (by simp [hz])
  simp only [List.sum_cons];omega
theorem every_pos {d:Nat} {kind:Int} {item:ByteArray} {long many:Int} {kids:List LT} {shares:List Int} (hv:VL (d+1) (.mk kind item long many kids shares)):1≤everyF kind kids.length shares∧everyF kind kids.length shares≤1000000:=by
 obtain ⟨v1,v2,v3,v4,v5,v6,v7,v8⟩:=hv
 unfold everyF
 split
 ·have:=List.length_pos_iff.2 (v3 (by omega));omega
 ·split
  ·rename_i h4
   have hn:shares≠[]:=fun e=>v3 (by omega) (List.eq_nil_of_length_eq_zero (by rw [← v5 h4,e];rfl))
   have h1:=gcdI_le_sum v6 hn
   have h2:=gcdI_pos (fun x hx=>(v6 x hx).1) hn
   have h3:∀ l:List Int,(∀ x∈l,1≤x∧x≤1000)→l.sum≤l.length * 1000:=fun l=>by
    induction l with
    | nil=>simp
    | cons y l ih=>intro h;have:=h y (by simp);have:=ih fun z hz=>h z (by simp [hz]);simp only [List.sum_cons,List.length_cons];omega
   have h4:=h3 shares v6
   have h5:shares.sum / (gcdI shares:Int)≤shares.sum:=Int.ediv_le_self _ (by omega)
   refine ⟨?_,by omega⟩
   have:=Int.le_ediv_of_mul_le (a:=1) (b:=shares.sum) (c:=(gcdI shares:Int)) (by omega) (by omega)
   omega
  ·omega
def RoundIs (d:Nat) (t:LT) (N:Nat):Prop:=(1≤N∧N≤5000)∧(passesU d t N).2.length≤5000∧homeF d t (passesU d t N).1=true∧∀ n,1≤n→n < N→homeF d t (passesU d t n).1=false
theorem RoundIs.eq {d:Nat} {t:LT} {N M:Nat} (h:RoundIs d t N) (k:RoundIs d t M):N=M:=by
 obtain ⟨a,_,b,c⟩:=h
 obtain ⟨a',_,b',c'⟩:=k
 rcases Nat.lt_trichotomy N M with h|h|h
 ·rw [c' N a.1 h] at b;cases b
 ·exact h
 ·rw [c M a'.1 h] at b';cases b'
open Classical in
noncomputable def roundN (d:Nat) (t:LT):Nat:=if h:∃ N,RoundIs d t N then h.choose else 0
theorem roundN_some {d:Nat} {t:LT} {N:Nat} (h:RoundIs d t N):roundN d t=N:=by
 have hx:∃ N,RoundIs d t N:=⟨N,h⟩
 rw [roundN,dif_pos hx]
 exact (hx.choose_spec).eq h
theorem roundN_none {d:Nat} {t:LT} (h:∀ N,¬ RoundIs d t N):roundN d t=0:=by
 rw [roundN,dif_neg fun ⟨N,hN⟩=>h N hN]
theorem roundN_is {d:Nat} {t:LT} (h:roundN d t≠0):RoundIs d t (roundN d t):=by
 by_cases hx:∃ N,RoundIs d t N
 ·rw [roundN,dif_pos hx];exact hx.choose_spec
 ·rw [roundN,dif_neg hx] at h;exact absurd rfl h
theorem round_long {d:Nat} {t:LT} {j:Nat} (hl:5000 < (passesU d t (j+1)).2.length) (hn:∀ n,1≤n→n≤j→homeF d t (passesU d t n).1=false):roundN d t=0:=roundN_none fun N ⟨a,b,c,_⟩=>by
 by_cases h:N≤j
 ·rw [hn N a.1 h] at c;cases c
 ·have:=passesU_mono d t (m:=j+1) (n:=N) (by omega)
  omega
noncomputable def roundS (d:Nat) (t:LT):List (ByteArray × Int):=if roundN d t=0 then [] else (passesU d t (roundN d t)).2
noncomputable def roundE (d:Nat) (t:LT):Int:=if roundN d t=0 then 2 else 0
theorem roundS_len (d:Nat) (t:LT):(roundS d t).length≤5000:=by
 unfold roundS
 split
 ·simp
 ·rename_i h;exact (roundN_is h).2.1
theorem roundS_pos {d:Nat} {t:LT} (hv:VL d t) (h:roundE d t=0):1≤(roundS d t).length:=by
 unfold roundE at h
 split at h
 ·cases h
 ·rename_i h0
  rw [roundS,if_neg h0]
  have:=(passesU_ok d t hv (roundN d t)).2.2
  have:=(roundN_is h0).1.1
  omega
def IL:Nat→LT→Prop
 | 0,_=>True
 | d+1,.mk kind _ long _ kids _=>(kind=1→1≤long∧long≤3600000)∧∀ k∈kids,IL d k
theorem IL.dflt:∀ d,IL d default
 | 0=>trivial
 | d+1=>show IL (d+1) (.mk 0 default 0 0 [] []) from ⟨fun h=>(by cases h),fun k hk=>(by cases hk)⟩
theorem pass_long:∀ (d:Nat) (t:LT) (s:PS),IL d t→∀ x∈(passU d t s).2,1≤x.2∧x.2≤3600000
 | 0,_,_,_=>by simp [passU]
 | d+1,.mk kind item long many kids shares,.mk p cs ks,hi=>by
  rw [passU_succ]
  have hk:∀ i,IL d (kids.getD i default):=fun i=>by
   by_cases h:i < kids.length
   ·exact hi.2 _ (getD_mem' kids i default h)
   ·rw [List.getD_eq_getElem?_getD,List.getElem?_eq_none (by omega)];exact IL.dflt d
  have key:∀ (L:List Nat) (a:(List Int × List PS) × List (ByteArray × Int)),(∀ x∈a.2,1≤x.2∧x.2≤3600000)→∀ x∈(L.foldl (stepU (passU d) kids) a).2,1≤x.2∧x.2≤3600000:=fun L=>by
   induction L with
   | nil=>intro a h;exact h
   | cons i L ih =>
    intro a h
    refine ih _ (fun x hx=>?_)
    rcases List.mem_append.1 hx with h9|h9
    ·exact h x h9
    ·exact pass_long d _ _ (hk i) x h9
  refine key _ _ ?_
  split
  ·rename_i h1
   intro x hx
   rw [List.mem_singleton.1 hx]
   exact hi.1 h1
  ·simp
theorem passes_long {d:Nat} {t:LT} (h:IL d t):∀ n,∀ x∈(passesU d t n).2,1≤x.2∧x.2≤3600000
 | 0=>by simp [passesU]
 | n+1=>fun x hx=>by
  rcases List.mem_append.1 hx with h9|h9
  ·exact passes_long h n x h9
  ·exact pass_long d t _ h x h9
theorem roundS_long {d:Nat} {t:LT} (h:IL d t):∀ x∈roundS d t,1≤x.2∧x.2≤3600000:=by
 unfold roundS
 split
 ·simp
 ·exact passes_long h _
theorem il_of:∀ (d:Nat) (t:LT),partF t=0→IL d t
 | 0,_,_=>trivial
 | d+1,.mk kind item long many kids shares,hp=>by
  rw [partF_eq] at hp
  by_cases h1:outB kind 1 5
  ·rw [if_pos h1] at hp;omega
  rw [if_neg h1] at hp
  by_cases h2:formB kind item long many kids.length shares.length
  ·rw [if_pos h2] at hp;omega
  rw [if_neg h2] at hp
  by_cases h3:(kind == 1 && !keyB item)=true
  ·rw [if_pos h3] at hp;omega
  rw [if_neg h3] at hp
  by_cases h4:(kind == 1 && outB long 1 3600000)=true
  ·rw [if_pos h4] at hp;omega
  rw [if_neg h4] at hp
  by_cases h5:(kind == 5 && outB many 1 100)=true
  ·rw [if_pos h5] at hp;omega
  rw [if_neg h5] at hp
  by_cases h6:shares.any (fun n=>outB n 1 1000)
  ·rw [if_pos h6] at hp;omega
  rw [if_neg h6] at hp
  have hnz:∀ (l:List Int),firstNZ l=0→∀ x∈l,x=0:=fun l=>by
   induction l with
   | nil=>intro _ x hx;cases hx
   | cons y l ih =>
    intro h x hx
    simp only [firstNZ] at h
    split at h
    ·rename_i h0
     rcases List.mem_cons.1 hx with rfl|hx
     ·exact h0
     ·exact ih h x hx
    ·rename_i h0;exact absurd h h0
  have hk:=hnz _ hp
  refine ⟨fun h=>?_,fun k hkm=>il_of d k (hk _ (List.mem_map.2 ⟨k,hkm,rfl⟩))⟩
  subst h
  simpa [outB] using h4
def itemsR:List ByteArray:=[⟨#[105,97]⟩,⟨#[105,98]⟩,⟨#[105,99]⟩,⟨#[110,97]⟩]
def RT:Nat→LT→Prop
 | 0,_=>False
 | d+1,.mk kind item long many kids shares =>
  (kind=1∧item∈itemsR∧(1≤long∧long≤5000)∧many=0∧kids=[]∧shares=[]) ∨
  ((2≤kind∧kind≤5)∧item=default∧long=0∧(kind=5→(1≤many∧many≤3)∧kids.length=1)∧(kind≠5→many=0)∧(1≤kids.length∧kids.length≤3)∧(kind=4→shares.length=kids.length)∧(kind≠4→shares=[])∧(∀ n∈shares,1≤n∧n≤4)∧∀ k∈kids,RT d k)
theorem RT.mono:∀ {d e:Nat} {t:LT},RT d t→d≤e→RT e t
 | 0,_,_,h,_=>h.elim
 | d+1,0,_,_,h=>by omega
 | d+1,e+1,.mk ..,h,hd=>by
  rcases h with h|⟨h1,h2,h3,h4,h5,h6,h7,h8,h9,h10⟩
  ·exact .inl h
  ·exact .inr ⟨h1,h2,h3,h4,h5,h6,h7,h8,h9,fun k hk=>(h10 k hk).mono (by omega)⟩
theorem items_size:∀ x∈itemsR,x.size≤2∧keyB x=true:=by decide
theorem RT.lc:∀ {d:Nat} {t:LT},RT d t→LC d t
 | 0,_,h=>h.elim
 | d+1,.mk kind item long many kids shares,h=>by
  rcases h with ⟨h1,h2,h3,h4,rfl,rfl⟩|⟨h1,h2,h3,h4,h5,h6,h7,h8,h9,h10⟩
  ·exact ⟨by unfold NB;omega,(items_size _ h2).1,by unfold NB;omega,by unfold NB;omega,by simp,by simp,by simp,by simp⟩
  ·have hm:NB many:=by
    unfold NB
    by_cases e:kind=5
    ·have:=h4 e;omega
    ·have:=h5 e;omega
   have hs:shares.length≤5:=by
    by_cases e:kind=4
    ·have:=h7 e;omega
    ·rw [h8 e];simp
   exact ⟨by unfold NB;omega,by rw [h2];decide,by unfold NB;omega,hm,by omega,hs,fun x hx=>by have:=h9 x hx;unfold NB;omega,fun k hk=>(h10 k hk).lc⟩
theorem firstNZ_none:∀ (l:List Int),(∀ x∈l,x=0)→firstNZ l=0
 | [],_=>rfl
 | y :: l,h=>by
  simp only [firstNZ]
  rw [if_pos (h y (by simp))]
  exact firstNZ_none l fun x hx=>h x (by simp [hx])
theorem RT.part:∀ {d:Nat} {t:LT},RT d t→partF t=0
 | 0,_,h=>h.elim
 | d+1,.mk kind item long many kids shares,h=>by
  rw [partF_eq]
  rcases h with ⟨rfl,h2,h3,rfl,rfl,rfl⟩|⟨h1,h2,h3,h4,h5,h6,h7,h8,h9,h10⟩
  ·have hk:=(items_size _ h2).2
   simp [outB,formB,hk,firstNZ]
   omega
  ·have c1:outB kind 1 5=false:=by simp [outB];omega
   have c2:formB kind item long many kids.length shares.length=false:=by
    have e1:(kind == 1)=false:=by simp;omega
    have e2:(kind == 5 && (kids.length:Int) != 1)=false:=by
     by_cases e:kind=5
     ·have:=h4 e;simp;omega
     ·simp [e]
    have e3:(kind == 4 && (shares.length:Int) != (kids.length:Int))=false:=by
     by_cases e:kind=4
     ·have:=h7 e;simp;omega
     ·simp [e]
    have e4:(kind != 4 && (shares.length:Int) != 0)=false:=by
     by_cases e:kind=4
     ·simp [e]
     ·have:=h8 e;simp [this]
    have e5:(kind != 5 && many != 0)=false:=by
     by_cases e:kind=5
     ·simp [e]
     ·have:=h5 e;simp [this]
    have e6:((kids.length:Int) == 0)=false:=by simp;intro e;rw [e] at h6;simp at h6
    have e7:(item != (⟨#[]⟩:ByteArray))=false:=by rw [h2];decide
    have e8:(long != 0)=false:=by rw [h3];rfl
    unfold formB
    rw [e1,e2,e3,e4,e5,e6,e7,e8]
    simp
   have c3:(kind == 1)=false:=by simp;omega
   have c4:(kind == 5 && outB many 1 100)=false:=by
    by_cases e:kind=5
    ·have:=h4 e;simp [outB];omega
    ·simp [e]
   have c5:shares.any (fun n=>outB n 1 1000)=false:=by
    rw [List.any_eq_false]
    intro x hx
    have:=h9 x hx
    simp [outB];omega
   rw [c1,c2,c3,c4,c5]
   simp only [Bool.false_and,Bool.false_eq_true,if_false]
   refine firstNZ_none _ fun x hx=>?_
   obtain ⟨k,hk,rfl⟩:=List.mem_map.1 hx
   exact (h10 k hk).part
def mostR:Nat→Int
 | 0=>0
 | d+1=>3 * mostR d+1
theorem mostR_nonneg:∀ d,0≤mostR d
 | 0=>Int.le_refl _
 | d+1=>by have:=mostR_nonneg d;simp only [mostR];omega
theorem RT.many:∀ {d:Nat} {t:LT},RT d t→0≤manyF t∧manyF t≤mostR d∧deepF t≤d
 | 0,_,h=>h.elim
 | d+1,.mk kind item long many kids shares,h=>by
  rw [manyF_eq,deepF_eq]
  have hm:=mostR_nonneg d
  have hk:kids.length≤3∧∀ k∈kids,RT d k:=by
   rcases h with ⟨h1,h2,h3,h4,rfl,rfl⟩|⟨h1,h2,h3,h4,h5,h6,h7,h8,h9,h10⟩
   ·simp
   ·exact ⟨h6.2,h10⟩
  have h1:=sum_bd manyF (mostR d) hm kids fun k hk'=>⟨(hk.2 k hk').many.1,(hk.2 k hk').many.2.1⟩
  have h2:=max_bd deepF d kids 0 (by omega) fun k hk'=>(hk.2 k hk').many.2.2
  have h3:(kids.length:Int) * mostR d≤3 * mostR d:=Int.mul_le_mul_of_nonneg_right (by omega) hm
  simp only [mostR]
  refine ⟨by omega,by omega,by omega⟩
theorem RT.fault {t:LT} (h:RT 4 t):faultF t=0:=by
 have h1:=h.many
 have e:mostR 4=40:=rfl
 unfold faultF
 rw [if_neg (by omega)]
 exact h.part
end Go.Proofs.YtidkkmoiolffnaaGreatDoor
