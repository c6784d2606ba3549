import Derived.Test.YthidfoohhhkobaaGreatG10
import Derived.Test.YthidfoohhhkobaaGreatG5
import Derived.Test.YthidfoohhhkobaaGreatG4
namespace Go.Proofs.YthidfoohhhkobaaGreat
set_option linter.unusedSimpArgs false
set_option linter.unusedVariables false
open Go.RowKit
set_option maxRecDepth 100000
set_option maxHeartbeats 4000000
theorem cmpB_self:∀ a:List UInt8,cmpB a a=0
 |[]=>rfl
 |x :: a=>by
   have h:¬ x < x:=by simp [UInt8.lt_iff_toNat_lt]
   have:=cmpB_self a
   unfold cmpB at this ⊢
   rw [Lib.compareBytes,if_neg h,if_neg h,this]
theorem cmpB_zero:∀ {a b:List UInt8},cmpB a b=0→a=b
 |[],[],_=>rfl
 |[],_ :: _,h=>by unfold cmpB at h;rw [Lib.compareBytes] at h;omega
 |_ :: _,[],h=>by unfold cmpB at h;rw [Lib.compareBytes] at h;omega
 |x :: a,y :: b,h=>by
   unfold cmpB at h
   rw [Lib.compareBytes] at h
   split at h
   ·omega
   ·split at h
    ·omega
    ·rename_i h1 h2
     have:x=y:=by
      simp only [UInt8.lt_iff_toNat_lt] at h1 h2
      exact UInt8.toNat_inj.1 (by omega)
     rw [this,cmpB_zero (a:=a) (b:=b) h]
theorem cmpB_tri:∀ (a b:List UInt8),cmpB a b= -cmpB b a
 |[],[]=>rfl
 |[],_ :: _=>rfl
 |_ :: _,[]=>rfl
 |x :: a,y :: b=>by
   have:=cmpB_tri a b
   unfold cmpB at this ⊢
   rw [Lib.compareBytes,Lib.compareBytes]
   simp only [UInt8.lt_iff_toNat_lt]
   split
   ·rw [if_neg (by omega)]
   ·split
    ·rfl
    ·exact this
theorem cmpB_trans:∀ {a b c:List UInt8},cmpB a b < 0→cmpB b c < 0→cmpB a c < 0
 |[],[],_,h,_=>by unfold cmpB at h;rw [Lib.compareBytes] at h;omega
 |_ :: _,[],_,h,_=>by unfold cmpB at h;rw [Lib.compareBytes] at h;omega
 |_,_ :: _,[],_,h=>by unfold cmpB at h;rw [Lib.compareBytes] at h;omega
 |[],_ :: _,_ :: _,_,_=>by unfold cmpB;rw [Lib.compareBytes];omega
 |x :: a,y :: b,z :: c,h1,h2=>by
   have ih:=@cmpB_trans a b c
   unfold cmpB at h1 h2 ih ⊢
   rw [Lib.compareBytes] at h1 h2 ⊢
   simp only [UInt8.lt_iff_toNat_lt] at h1 h2 ⊢
   split at h1
   ·split at h2
    ·rw [if_pos (by omega)];omega
    ·split at h2
     ·omega
     ·rw [if_pos (by omega)];omega
   ·split at h1
    ·omega
    ·split at h2
     ·rw [if_pos (by omega)];omega
     ·split at h2
      ·omega
      ·rw [if_neg (by omega),if_neg (by omega)]
       exact ih h1 h2
def befB (x y:Hd):Bool:=decide (cmpB (msg x) (msg y) < 0)
def ordH (l:List Hd):Prop:=l.Pairwise (fun x y=>befB x y=true)
theorem bef_trans {x y z:Hd} (h1:befB x y=true) (h2:befB y z=true):befB x z=true:=
 decide_eq_true (cmpB_trans (of_decide_eq_true h1) (of_decide_eq_true h2))
def lbH (l:List Hd) (h:Hd):Nat:=(l.takeWhile (fun y=>befB y h)).length
def foundH (l:List Hd) (h:Hd):Bool:=decide (lbH l h < l.length)&&(cmpB (msg (l.getD (lbH l h) default)) (msg h)==0)
theorem lbH_le (l:List Hd) (h:Hd):lbH l h≤l.length:=by
 unfold lbH
 exact (List.takeWhile_prefix _).length_le
theorem getD_atH {l:List Hd} {k:Nat} (h:k < l.length):l.getD k default=l[k]:=by simp [List.getD,h]
theorem lbH_of {l:List Hd} {h:Hd}:∀ {i:Nat},i≤l.length→(∀ k,k < i→befB (l.getD k default) h=true)→(i < l.length→befB (l.getD i default) h=false)→lbH l h=i:=by
 unfold lbH
 induction l with
 |nil=>intro i hi _ _;simp at hi;simp [hi]
 |cons x l ih=>
   intro i hi h1 h2
   cases i with
   |zero=>
     have:=h2 (by simp)
     simp only [List.getD_cons_zero] at this
     rw [List.takeWhile_cons,if_neg (by simp [this])]
     rfl
   |succ i=>
     have h0:=h1 0 (by omega)
     simp only [List.getD_cons_zero] at h0
     rw [List.takeWhile_cons,if_pos h0,List.length_cons,ih (i:=i) (by simpa using hi) (fun k hk=>by simpa using h1 (k+1) (by omega)) (fun h=>by simpa using h2 (by simpa using h))]
theorem mid_run {i j m:Nat} (h:i+j≤1048576) (hm:m=(i+j) / 2):IntKind.i64.wrap ((IntKind.u64.wrap ((i:Int)+(j:Int))).fdiv (2 ^ min 1 IntKind.u64.bits))=(m:Int):=by
 have h1:IntKind.u64.wrap ((i:Int)+(j:Int))=((i+j:Nat):Int):=by
  rw [IntKind.wrap_u64];omega
 rw [h1,show (2:Int) ^ min 1 IntKind.u64.bits=2 by decide,Int.fdiv_eq_ediv_of_nonneg _ (by decide),hm,IntKind.wrap_i64]
 omega
def fnC:A:= .one (.c (.func (.func 66) #[] #[]))
abbrev handsD (l:List Hd):D:= .sl 42 (handD default) (l.map handD)
theorem bsH_spec (l:List Hd) (h:Hd) (hl:l.length≤4096) (hh:hOk h) (ho:∀ x∈l,hOk x) (hp:ordH l):Spec Tryz.prog 77 [.one (handsD l),.agg (handD h),fnC] (.rt [aI (lbH l h),aB (foundH l h)]):=by
 unfold fnC
 refine spec_of T_ok Tryz.func77 (by dsimp only [Tryz.f77]) rfl rfl (by simp) fun w F=>?_
 repeat' (first |(with_reducible first |refine aw_seq ?_|refine aw_block ?_)|((((with_reducible refine aw_regionA T_ok ?_ ?_);kernel_rfl) );simp only [↓avP,avQ,avR,forall_const,implies_true,Nat.reduceEqDiff,Nat.reduceAdd,reduceCtorEq,ty_49]))
 refine aw_loopI (fun x:Nat×Nat=>⟨[(0,.d (handsD l)),(2,.d (.c (.func (.func 66) #[] #[]))),(4,.ptr 0 0),(8,vI l.length),(9,vI x.1),(10,vI x.2)],[(0,.cells 36 (dV (handD h)))],1⟩)
  (fun x=>x.1≤x.2∧x.2≤l.length∧(∀ k,k < x.1→befB (l.getD k default) h=true)∧(∀ k,x.2≤k→k < l.length→befB (l.getD k default) h=false)) (fun x=>x.2 - x.1) (0,l.length) ⟨Nat.zero_le _,Nat.le_refl _,fun k hk=>absurd hk (Nat.not_lt_zero k),fun k h1 h2=>absurd h2 (by omega)⟩ (wk_of [(0,some 0)] rfl rfl ?_ ?_) ?_
 ·simp only [wkA,reduceIte,Nat.reduceEqDiff]
  (repeat' (first |rfl|exact subVs_d _ _))
 ·simp only [wkA,reduceIte,Nat.reduceEqDiff]
  (repeat' (first |rfl|exact subVs_d _ _))
 rintro ⟨i,j⟩ ⟨hij,hjn,hlo,hhi⟩
 dsimp only at hij hjn hlo hhi ⊢
 rcases Nat.lt_or_ge i j with hlt|hge
 ·have hd:=ltd hlt
  obtain ⟨m,hm⟩:∃ m,m=(i+j) / 2:=⟨_,rfl⟩
  have hw:=mid_run (i:=i) (j:=j) (m:=m) (by omega) hm
  have hmn:m < l.length:=by omega
  have hcm:=gcompare_spec (l.getD m default) h (hOk_getD ho m) hh
  have hpk:∀ a b,a < b→b < l.length→befB (l.getD a default) (l.getD b default)=true:=fun a b hab hb=>by
   rw [getD_atH hb,getD_atH (by omega)]
   exact List.pairwise_iff_getElem.1 hp a b (by omega) hb hab
  cases hb:befB (l.getD m default) h with
  |true=>
    have hb':=hb
    unfold befB at hb'
    repeat' (first |(with_reducible first |refine aw_seq ?_|refine two_t ?_|refine two_f ?_)|((with_reducible refine And.intro ?_ ?_);(focus (omega)))|(with_reducible refine aw_block ?_)|((first |((with_reducible refine aw_regionA T_ok ?_ ?_);kernel_rfl)|((with_reducible refine aw_drawnX [0,1,2,3,4,5] [6,7] T_ok ?_ ?_ ?_ ?_);kernel_rfl;kernel_rfl;(focus (decide+kernel)))|((with_reducible refine callI_spec (hcm) ?_ ?_ ?_ ?_);(focus (((repeat' (first |exact ta_n|refine ta_a ?_));done)));kernel_rfl;kernel_rfl)|(with_reducible refine aw_skip ?_)|((with_reducible refine aw_condM ?_ ?_);kernel_rfl) );simp only [↓avP,avQ,avR,forall_const,implies_true,Nat.reduceEqDiff,Nat.reduceAdd,Int.reduceToNat,Nat.reduceLeDiff,reduceCtorEq,avS,handS,ty_H,ty_3,ty_49,ty_146,hd,hw,hb'];try simp (disch:=omega) only [av_w]))
    refine ⟨(m+1,j),⟨by dsimp only;omega,hjn,fun k hk=>?_,hhi⟩,by dsimp only;omega,wk_of [(0,some 0)] rfl rfl ?_ ?_⟩
    ·by_cases hkm:k=m
     ·rw [hkm];exact hb
     ·exact bef_trans (hpk k m (by dsimp only at hk;omega) hmn) hb
    ·simp only [wkA,reduceIte,Nat.reduceEqDiff]
     (repeat' (first |rfl|exact subVs_d _ _))
    ·simp only [wkA,reduceIte,Nat.reduceEqDiff]
     (repeat' (first |rfl|exact subVs_d _ _))
  |false=>
    have hb':=hb
    unfold befB at hb'
    repeat' (first |(with_reducible first |refine aw_seq ?_|refine two_t ?_|refine two_f ?_)|((with_reducible refine And.intro ?_ ?_);(focus (omega)))|(with_reducible refine aw_block ?_)|((first |((with_reducible refine aw_regionA T_ok ?_ ?_);kernel_rfl)|((with_reducible refine aw_drawnX [0,1,2,3,4,5] [6,7] T_ok ?_ ?_ ?_ ?_);kernel_rfl;kernel_rfl;(focus (decide+kernel)))|((with_reducible refine callI_spec (hcm) ?_ ?_ ?_ ?_);(focus (((repeat' (first |exact ta_n|refine ta_a ?_));done)));kernel_rfl;kernel_rfl)|(with_reducible refine aw_skip ?_)|((with_reducible refine aw_condM ?_ ?_);kernel_rfl) );simp only [↓avP,avQ,avR,forall_const,implies_true,Nat.reduceEqDiff,Nat.reduceAdd,Int.reduceToNat,Nat.reduceLeDiff,reduceCtorEq,avS,handS,ty_H,ty_3,ty_49,ty_146,hd,hw,hb'];try simp (disch:=omega) only [av_w]))
    refine ⟨(i,m),⟨by dsimp only;omega,by dsimp only;omega,hlo,fun k hk hk2=>?_⟩,by dsimp only;omega,wk_of [(0,some 0)] rfl rfl ?_ ?_⟩
    ·by_cases hkm:k=m
     ·rw [hkm];exact hb
     ·cases hc:befB (l.getD k default) h with
      |false=>rfl
      |true=>rw [bef_trans (hpk m k (by dsimp only at hk;omega) hk2) hc] at hb;cases hb
    ·simp only [wkA,reduceIte,Nat.reduceEqDiff]
     (repeat' (first |rfl|exact subVs_d _ _))
    ·simp only [wkA,reduceIte,Nat.reduceEqDiff]
     (repeat' (first |rfl|exact subVs_d _ _))
 ·obtain rfl:i=j:=by omega
  have hd:=ged (Nat.le_refl i)
  have hlb:lbH l h=i:=lbH_of hjn hlo (fun h=>hhi i (Nat.le_refl _) h)
  have hcm:=gcompare_spec (l.getD i default) h (hOk_getD ho i) hh
  rcases Nat.lt_or_ge i l.length with hl1|hl1
  ·have hd2:=ltd hl1
   repeat' (first |(with_reducible first |refine aw_seq ?_|refine two_f ?_)|((with_reducible refine And.intro ?_ ?_);(focus (first |omega|grind)))|((first |((with_reducible refine aw_regionA T_ok ?_ ?_);kernel_rfl)|((with_reducible refine aw_drawnA T_ok ?_ ?_ ?_ ?_);kernel_rfl;kernel_rfl;(focus (decide+kernel)))|((with_reducible refine callK_intro (hcm) ?_ ?_ ?_);(focus (((repeat' (first |exact ta_n|refine ta_a ?_));done)));kernel_rfl)|(with_reducible refine aw_exit ?_)|((with_reducible refine aw_condM ?_ ?_);kernel_rfl)|(with_reducible refine aw_ret ?_) );simp only [↓avP,avQ,avR,forall_const,implies_true,Nat.reduceEqDiff,Nat.reduceAdd,Nat.reduceLeDiff,reduceCtorEq,avS,handS,ty_H,ty_3,ty_49,hd,hd2]))
   refine ⟨Sub.of_eq (congrArg aI (by rw [hlb])),Sub.of_eq (congrArg aB ?_)⟩
   rw [foundH,hlb,decide_eq_true hl1,Bool.true_and]
  ·have hd2:=ged hl1
   repeat' (first |(with_reducible first |refine aw_seq ?_|refine two_f ?_)|((with_reducible refine And.intro ?_ ?_);(focus (first |omega|grind)))|((first |((with_reducible refine aw_regionA T_ok ?_ ?_);kernel_rfl)|((with_reducible refine aw_drawnA T_ok ?_ ?_ ?_ ?_);kernel_rfl;kernel_rfl;(focus (decide+kernel)))|((with_reducible refine callK_intro (hcm) ?_ ?_ ?_);(focus (((repeat' (first |exact ta_n|refine ta_a ?_));done)));kernel_rfl)|(with_reducible refine aw_exit ?_)|((with_reducible refine aw_condM ?_ ?_);kernel_rfl)|(with_reducible refine aw_ret ?_) );simp only [↓avP,avQ,avR,forall_const,implies_true,Nat.reduceEqDiff,Nat.reduceAdd,Nat.reduceLeDiff,reduceCtorEq,avS,handS,ty_H,ty_3,ty_49,hd,hd2]))
   refine ⟨Sub.of_eq (congrArg aI (by rw [hlb])),Sub.of_eq (congrArg aB ?_)⟩
   rw [foundH,hlb,decide_eq_false (by omega),Bool.false_and]

theorem q48time_spec (n:Int):Spec Tryz.prog 71 [aI n] (.r1 (aB (decide (n≥0)&&decide (n < 2097152)))):=by
 refine spec_of T_ok Tryz.func71 (by dsimp only [Tryz.f71]) rfl rfl (by simp) fun w F=>?_
 repeat' (first |(with_reducible refine aw_seq ?_)|((with_reducible refine two_intro ?_ ?_)<;>intro h<;>first |contradiction|(((revert h;intro _))))|((with_reducible refine And.intro ?_ ?_);(focus (rfl)))|((first |((with_reducible refine aw_regionA T_ok ?_ ?_);kernel_rfl)|(with_reducible refine aw_exit ?_)|((with_reducible refine aw_condM ?_ ?_);kernel_rfl)|(with_reducible refine aw_ret ?_) );simp only [↓avP,avQ,avR,forall_const,implies_true,Nat.reduceEqDiff,Nat.reduceAdd,Nat.reduceLeDiff,reduceCtorEq,avS,u8s_by,strOf_by,ty_79,ty_50,ty_9,ty_5]))
 all_goals exact Sub.refl _
theorem q48formed_spec (h:Hd):Spec Tryz.prog 35 [.agg (handD h)] (.r1 (aB (formB h))):=by
 refine spec_of T_ok Tryz.func35 (by dsimp only [Tryz.f35]) rfl rfl (by simp) fun w F=>?_
 repeat' (first |(with_reducible refine aw_seq ?_)|((first |((with_reducible refine aw_regionA T_ok ?_ ?_);kernel_rfl)|((with_reducible refine callK_intro (q48time_spec _) (by repeat' (first |exact ta_n|refine ta_d ?_)) ?_ ?_);kernel_rfl)|(with_reducible refine aw_ret ?_) );simp only [↓avP,avQ,avR,forall_const,implies_true,Nat.reduceEqDiff,Nat.reduceAdd,reduceCtorEq,avS,handS,ty_H,ty_3,ty_30]))
 refine Sub.of_eq (congrArg aB ?_)
 rw [Bool.eq_iff_iff]
 unfold formB btw
 simp only [Bool.and_eq_true,decide_eq_true_eq,bne_iff_ne,ne_eq]
 constructor
 ·intro h;refine ⟨⟨⟨⟨⟨⟨⟨?_,?_⟩,?_,?_⟩,?_,?_⟩,⟨⟨?_,?_⟩,?_,?_⟩,?_⟩,?_,?_⟩,?_,?_⟩,?_,?_⟩<;>omega
 ·intro h;omega
theorem q13number_spec (n:Int):Spec Tryz.prog 39 [aI n] (.r1 (.agg (valD (intV n)))):=by
 refine spec_of T_ok Tryz.func39 (by dsimp only [Tryz.f39]) rfl rfl (by simp) fun w F=>?_
 repeat' (first |(with_reducible refine aw_seq ?_)|((with_reducible refine two_intro ?_ ?_)<;>intro h<;>first |contradiction|(((revert h;intro _))))|((with_reducible refine And.intro ?_ ?_);(focus (rfl)))|((first |((with_reducible refine aw_regionA T_ok ?_ ?_);kernel_rfl)|(with_reducible refine aw_exit ?_)|((with_reducible refine aw_condM ?_ ?_);kernel_rfl)|(with_reducible refine aw_ret ?_) );simp only [↓avP,avQ,avR,forall_const,implies_true,Nat.reduceEqDiff,Nat.reduceAdd,Nat.reduceLeDiff,reduceCtorEq,avS,u8s_by,strOf_by,ty_79,ty_50,ty_9,ty_5]))
 exact Sub.aggL (sub_int n)
theorem subDL_refl:∀ l:List D,SubDL l l
 |[]=>trivial
 |_ :: l=>⟨.refl _,subDL_refl l⟩
theorem subEs_refl:∀ es:List (List D),SubEs es es
 |[]=>trivial
 |x :: es=>⟨subDL_refl x,subEs_refl es⟩
theorem q13list_spec (l:List Cd.V) (d0:List D):Spec Tryz.prog 42 [.one (.sl 4 d0 (valsD l))] (.r1 (.agg (valD (.mk 3 0 [] l)))):=by
 refine spec_of T_ok Tryz.func42 (by dsimp only [Tryz.f42]) rfl rfl (by simp) fun w F=>?_
 repeat' (first |(with_reducible refine aw_seq ?_)|((with_reducible refine two_intro ?_ ?_)<;>intro h<;>first |contradiction|(((revert h;intro _))))|((with_reducible refine And.intro ?_ ?_);(focus (rfl)))|((first |((with_reducible refine aw_regionA T_ok ?_ ?_);kernel_rfl)|(with_reducible refine aw_exit ?_)|((with_reducible refine aw_condM ?_ ?_);kernel_rfl)|(with_reducible refine aw_ret ?_) );simp only [↓avP,avQ,avR,forall_const,implies_true,Nat.reduceEqDiff,Nat.reduceAdd,Nat.reduceLeDiff,reduceCtorEq,avS,u8s_by,strOf_by,ty_79,ty_50,ty_9,ty_5]))
 exact Sub.aggL ⟨.refl _,.refl _,.refl _,.sl (subEs_refl _),trivial⟩
theorem rootD_get (l:List UInt8) (k:Nat) (hk:k < l.length):((dV (rootD l)).drop k).head? =some (.d (.c (.int .u8 (l[k].toNat:Int)))):=by
 rw [List.head?_drop]
 simp [dV,rootD,List.getElem?_map,List.getElem?_eq_getElem hk]
theorem q13text_spec (r:Vector UInt8 32):Spec Tryz.prog 40 [.agg (rootD r.toList)] (.r1 (.agg (valD (.mk 2 0 r.toList [])))):=by
 have hl:r.toList.length=32:=by simp
 generalize r.toList=l at *
 have hln:(dV (rootD l)).length=32:=by rw [dV_len,rootD_ln,hl]
 have hln2:(rootD l).length=32:=by rw [rootD_ln,hl]
 have htk:(dV (rootD l)).take 32=dV (rootD l):=List.take_of_length_le (by omega)
 refine spec_of T_ok Tryz.func40 (by dsimp only [Tryz.f40]) rfl rfl (by simp) fun w F=>?_
 repeat' (first |(with_reducible refine aw_seq ?_)|((with_reducible refine And.intro ?_ ?_);(focus (first |rfl|decide)))|(with_reducible refine aw_block ?_)|((((with_reducible refine aw_regionA T_ok ?_ ?_);kernel_rfl) );simp only [↓avP,avQ,avR,forall_const,implies_true,Nat.reduceEqDiff,Nat.reduceAdd,Nat.reduceLT,reduceCtorEq,avS,ty_79,ty_50,ty_5]))
 refine aw_loopI (fun k:Nat=>⟨[(1,.ptr 0 0),(2,.ptr 1 0),(3,.ow 2 1 (byD 0) ((l.take k).map byD)),(4,vI k)],[(2,.tok 5 1 (l.take k).length),(1,.cells 79 [vI 0,vI 0,.d (.c (.string ⟨#[]⟩)),.d (.c (.slice none 0 0))]),(0,.cells 32 (dV (rootD l)))],3⟩) (fun k=>k≤32) (fun k=>32 - k) 0 (Nat.zero_le _) (wk_of [(0,some 0),(1,some 1),(2,some 2)] rfl rfl ?_ ?_) ?_
 ·simp only [wkA,reduceIte,Nat.reduceEqDiff]
  (repeat' (first |rfl|exact subVs_d _ _|refine And.intro ?_ ?_))
 ·simp only [wkA,reduceIte,Nat.reduceEqDiff]
  (repeat' (first |rfl|exact subVs_d _ _|refine And.intro ?_ ?_))
 intro k hk
 rcases Nat.lt_or_ge k 32 with hlt|hge
 ·have hd2:decide ((k:Int) < 32)=true:=decide_eq_true (by omega)
  have hg:=rootD_get l k (by omega)
  have hts:(l.take (k+1)).map byD=(l.take k).map byD++[byD (getElem l k (by omega))]:=by
   rw [List.take_succ_eq_append_getElem (by omega),List.map_append];rfl
  repeat' (first |(with_reducible first |refine aw_seq ?_|refine two_t ?_)|((with_reducible refine And.intro ?_ ?_);(focus (first |omega|rfl|decide|grind)))|(with_reducible refine aw_block ?_)|((first |((with_reducible refine aw_regionA T_ok ?_ ?_);kernel_rfl)|(with_reducible refine aw_skip ?_)|((with_reducible refine aw_condM ?_ ?_);kernel_rfl) );simp only [↓avP,avQ,avR,forall_const,implies_true,Nat.reduceEqDiff,Nat.reduceAdd,Nat.reduceLeDiff,Nat.reduceLT,reduceCtorEq,ty_32,ty_50,ty_5,hd2,hg];try simp (disch:=omega) only [av_w]))
  refine ⟨k+1,by omega,by dsimp only;omega,wk_of [(0,some 0),(1,some 1),(2,some 4)] rfl rfl ?_ ?_⟩
  ·simp only [wkA,reduceIte,Nat.reduceEqDiff,hts]
   (repeat' (first |rfl|exact subVs_d _ _|refine And.intro ?_ ?_))
  ·simp only [wkA,reduceIte,Nat.reduceEqDiff]
   repeat' (first |exact subVs_d _ _|refine And.intro ?_ ?_|(simp;omega))
 ·obtain rfl:k=32:=by omega
  repeat' (first |(with_reducible refine aw_seq ?_)|((with_reducible refine two_intro ?_ ?_)<;>intro h<;>first |contradiction|(((revert h;intro _))))|((with_reducible refine And.intro ?_ ?_);(focus (rfl)))|((first |((with_reducible refine aw_regionA T_ok ?_ ?_);kernel_rfl)|(with_reducible refine aw_exit ?_)|((with_reducible refine aw_condM ?_ ?_);kernel_rfl)|(with_reducible refine aw_ret ?_) );simp only [↓avP,avQ,avR,forall_const,implies_true,Nat.reduceEqDiff,Nat.reduceAdd,Nat.reduceLeDiff,reduceCtorEq,avS,u8s_by,strOf_by,ty_79,ty_50,ty_9,ty_5]))
  rw [List.take_of_length_le (by omega)]
  exact Sub.aggL (sub_text l)
theorem bless_cmp:∀ a b:List UInt8,Op.bytesLess a b=decide (cmpB a b < 0)
 |a,[]=>by cases a<;>rfl
 |[],_ :: _=>rfl
 |x :: a,y :: b=>by
   have ih:=bless_cmp a b
   unfold cmpB at ih ⊢
   rw [Op.bytesLess,Lib.compareBytes,ih]
   by_cases h1:x < y
   ·simp [h1]
   ·by_cases h2:y < x
    ·have:¬ x=y:=fun e=>by subst e;simp [UInt8.lt_iff_toNat_lt] at h2
     simp [h1,h2,this]
    ·have:x=y:=by simp only [UInt8.lt_iff_toNat_lt] at h1 h2;exact UInt8.toNat_inj.1 (by omega)
     simp [h1,h2,this]

theorem subEs_eq {a b:List (List D)} (h:a=b):SubEs a b:=h ▸ subEs_refl a
theorem q06Send_spec (n:NetP) (p:Pk) (hn:okNet n):Spec Tryz.prog 60 [.agg (netD n),aPk p] (.rt [.agg (netD (sendN n p)),aI (sendErr n p)]):=by
 have hc:=q06Check_spec n hn
 have hp:=q06Packet_spec p
 obtain ⟨hq,ha⟩:=hn
 refine spec_of T_ok Tryz.func60 (by dsimp only [Tryz.f60]) rfl rfl (by simp) fun w F=>?_
 cases h1:(netChk n != 0) with
 |true=>
   repeat' (first |(with_reducible first |refine aw_seq ?_|refine two_t ?_)|((with_reducible refine And.intro ?_ ?_);(focus (rfl)))|((first |((with_reducible refine aw_regionA T_ok ?_ ?_);kernel_rfl)|((with_reducible refine callI_spec (hc) ?_ ?_ ?_ ?_);(focus (with_unfolding_all rfl));kernel_rfl;kernel_rfl)|((with_reducible refine callK_intro (hp) (by repeat' (first |exact ta_n|refine ta_a ?_)) ?_ ?_);kernel_rfl)|((with_reducible refine aw_condM ?_ ?_);kernel_rfl)|(with_reducible refine aw_ret ?_) );simp only [↓avP,avQ,avR,forall_const,implies_true,Nat.reduceEqDiff,Nat.reduceAdd,Nat.reduceLeDiff,reduceCtorEq,avS,netD_B,pkD_B,ty_52,ty_26,h1]))
   have he:sendErr n p=60:=by unfold sendErr;rw [if_pos (.inl (by simpa using h1))]
   rw [sendN,he,if_neg (by decide)]
   exact ⟨sub_net0,Sub.refl _⟩
 |false=>
 cases h2:packetB p with
 |false=>
   rw [h2] at hp
   repeat' (first |(with_reducible first |refine aw_seq ?_|refine two_t ?_)|((with_reducible refine And.intro ?_ ?_);(focus (rfl)))|((first |((with_reducible refine aw_regionA T_ok ?_ ?_);kernel_rfl)|((with_reducible refine callI_spec (hc) ?_ ?_ ?_ ?_);(focus (with_unfolding_all rfl));kernel_rfl;kernel_rfl)|((with_reducible refine callK_intro (hp) (by repeat' (first |exact ta_n|refine ta_a ?_)) ?_ ?_);kernel_rfl)|((with_reducible refine aw_condM ?_ ?_);kernel_rfl)|(with_reducible refine aw_ret ?_) );simp only [↓avP,avQ,avR,forall_const,implies_true,Nat.reduceEqDiff,Nat.reduceAdd,Nat.reduceLeDiff,reduceCtorEq,avS,netD_B,pkD_B,ty_52,ty_26,h1]))
   have he:sendErr n p=60:=by unfold sendErr;rw [if_pos (.inr h2)]
   rw [sendN,he,if_neg (by decide)]
   exact ⟨sub_net0,Sub.refl _⟩
 |true=>
 rw [h2] at hp
 cases h3:((n.queue.length:Int)==4096) with
 |true=>
   repeat' (first |(with_reducible first |refine aw_seq ?_|refine two_t ?_|refine two_f ?_)|((with_reducible refine And.intro ?_ ?_);(focus (first |omega|rfl|decide)))|((first |((with_reducible refine aw_regionA T_ok ?_ ?_);kernel_rfl)|((with_reducible refine aw_drawnC T_ok ?_ ?_ ?_ ?_);kernel_rfl;kernel_rfl;(focus (decide+kernel)))|((with_reducible refine callI_spec (hc) ?_ ?_ ?_ ?_);(focus (with_unfolding_all rfl));kernel_rfl;kernel_rfl)|((with_reducible refine callK_intro (hp) (by repeat' (first |exact ta_n|refine ta_a ?_)) ?_ ?_);kernel_rfl)|(with_reducible refine aw_skip ?_)|((with_reducible refine aw_condM ?_ ?_);kernel_rfl)|(with_reducible refine aw_ret ?_) );simp only [↓avP,avQ,avR,forall_const,implies_true,Nat.reduceEqDiff,Nat.reduceAdd,Nat.reduceSub,Nat.reduceLeDiff,Nat.reduceLT,reduceCtorEq,↓hwpC.eq_def,↓hopC.eq_def,↓apKH.eq_def,↓apH.eq_def,rqOk,lkC,delO,takes,whoMakes,headC,tailC,isTC,Option.some.injEq,avS,netD_B,pkD_B,ty_52,ty_23,ty_26,h1,h3]))
   have he:sendErr n p=2:=by
    unfold sendErr
    rw [if_neg (by rw [h2];simpa using h1),if_pos (by have:=beq_iff_eq.1 h3;omega)]
   rw [sendN,he,if_neg (by decide)]
   exact ⟨sub_net0,Sub.refl _⟩
 |false=>
   repeat' (first |(with_reducible first |refine aw_seq ?_|refine two_t ?_|refine two_f ?_)|((with_reducible refine And.intro ?_ ?_);(focus (first |omega|rfl|decide)))|((first |((with_reducible refine aw_regionA T_ok ?_ ?_);kernel_rfl)|((with_reducible refine aw_drawnC T_ok ?_ ?_ ?_ ?_);kernel_rfl;kernel_rfl;(focus (decide+kernel)))|((with_reducible refine callI_spec (hc) ?_ ?_ ?_ ?_);(focus (with_unfolding_all rfl));kernel_rfl;kernel_rfl)|((with_reducible refine callK_intro (hp) (by repeat' (first |exact ta_n|refine ta_a ?_)) ?_ ?_);kernel_rfl)|(with_reducible refine aw_skip ?_)|((with_reducible refine aw_condM ?_ ?_);kernel_rfl)|(with_reducible refine aw_ret ?_) );simp only [↓avP,avQ,avR,forall_const,implies_true,Nat.reduceEqDiff,Nat.reduceAdd,Nat.reduceSub,Nat.reduceLeDiff,Nat.reduceLT,reduceCtorEq,↓hwpC.eq_def,↓hopC.eq_def,↓apKH.eq_def,↓apH.eq_def,rqOk,lkC,delO,takes,whoMakes,headC,tailC,isTC,Option.some.injEq,avS,netD_B,pkD_B,ty_52,ty_23,ty_26,h1,h3]))
   have he:sendErr n p=0:=by
    unfold sendErr
    rw [if_neg (by rw [h2];simpa using h1),if_neg (by have:=beq_eq_false_iff_ne.1 h3;omega)]
   rw [sendN,he,if_pos rfl]
   exact ⟨Sub.aggL ⟨.sl (subEs_eq (by simp)),.refl _,trivial⟩,Sub.refl _⟩
theorem q06asked_spec (n:NetP) (i:Int) (hn:okNet n):Spec Tryz.prog 58 [.agg (netD n),aI i] (.r1 (aI (atErr n i))):=by
 have hc:=q06Check_spec n hn
 obtain ⟨hq,ha⟩:=hn
 refine spec_of T_ok Tryz.func58 (by dsimp only [Tryz.f58]) rfl rfl (by simp) fun w F=>?_
 cases h1:(netChk n != 0) with
 |true=>
   repeat' (first |(with_reducible first |refine aw_seq ?_|refine two_t ?_)|((first |((with_reducible refine aw_regionA T_ok ?_ ?_);kernel_rfl)|((with_reducible refine callI_spec (hc) ?_ ?_ ?_ ?_);(focus (with_unfolding_all rfl));kernel_rfl;kernel_rfl)|((with_reducible refine aw_condM ?_ ?_);kernel_rfl)|(with_reducible refine aw_ret ?_) );simp only [↓avP,avQ,avR,forall_const,implies_true,Nat.reduceEqDiff,Nat.reduceAdd,Nat.reduceLeDiff,reduceCtorEq,avS,netD_B,ty_26,h1]))
   exact Sub.of_eq (congrArg aI (by unfold atErr;rw [if_pos (by simpa using h1)]))
 |false=>
 cases h2:decide (i < 0) with
 |true=>
   repeat' (first |(with_reducible first |refine aw_seq ?_|refine two_t ?_|refine two_f ?_)|((first |((with_reducible refine aw_regionA T_ok ?_ ?_);kernel_rfl)|((with_reducible refine callI_spec (hc) ?_ ?_ ?_ ?_);(focus (with_unfolding_all rfl));kernel_rfl;kernel_rfl)|(with_reducible refine aw_skip ?_)|((with_reducible refine aw_condM ?_ ?_);kernel_rfl)|(with_reducible refine aw_ret ?_) );simp only [↓avP,avQ,avR,forall_const,implies_true,Nat.reduceEqDiff,Nat.reduceAdd,Nat.reduceLeDiff,reduceCtorEq,avS,netD_B,ty_23,ty_26,h1,h2]))
   exact Sub.of_eq (congrArg aI (by unfold atErr;rw [if_neg (by simpa using h1),if_pos (.inl (of_decide_eq_true h2))]))
 |false=>
 cases h3:decide (i≥(n.queue.length:Int)) with
 |true=>
   repeat' (first |(with_reducible first |refine aw_seq ?_|refine two_t ?_|refine two_f ?_)|((first |((with_reducible refine aw_regionA T_ok ?_ ?_);kernel_rfl)|((with_reducible refine callI_spec (hc) ?_ ?_ ?_ ?_);(focus (with_unfolding_all rfl));kernel_rfl;kernel_rfl)|(with_reducible refine aw_skip ?_)|((with_reducible refine aw_condM ?_ ?_);kernel_rfl)|(with_reducible refine aw_ret ?_) );simp only [↓avP,avQ,avR,forall_const,implies_true,Nat.reduceEqDiff,Nat.reduceAdd,Nat.reduceLeDiff,reduceCtorEq,avS,netD_B,ty_23,ty_26,h1,h2,h3]))
   exact Sub.of_eq (congrArg aI (by unfold atErr;rw [if_neg (by simpa using h1),if_pos (.inr (of_decide_eq_true h3))]))
 |false=>
   have h2':=of_decide_eq_false h2
   have h3':=of_decide_eq_false h3
   repeat' (first |(with_reducible first |refine aw_seq ?_|refine two_t ?_|refine two_f ?_)|((first |((with_reducible refine aw_regionA T_ok ?_ ?_);kernel_rfl)|((with_reducible refine callI_spec (hc) ?_ ?_ ?_ ?_);(focus (with_unfolding_all rfl));kernel_rfl;kernel_rfl)|(with_reducible refine aw_skip ?_)|((with_reducible refine aw_condM ?_ ?_);kernel_rfl)|(with_reducible refine aw_ret ?_) );simp only [↓avP,avQ,avR,forall_const,implies_true,Nat.reduceEqDiff,Nat.reduceAdd,Nat.reduceLeDiff,reduceCtorEq,avS,netD_B,ty_23,ty_26,h1,h2,h3]))
   exact Sub.of_eq (congrArg aI (by unfold atErr;rw [if_neg (by simpa using h1),if_neg (by omega)]))
theorem q06without_spec (n:NetP) (i:Nat) (hn:okNet n) (hi:i < n.queue.length):Spec Tryz.prog 59 [.agg (netD n),aI i] (.r1 (.agg (netD (cutN n i)))):=by
 obtain ⟨hq,ha⟩:=hn
 refine spec_of T_ok Tryz.func59 (by dsimp only [Tryz.f59]) rfl rfl (by simp) fun w F=>?_
 repeat' (first |(with_reducible refine aw_seq ?_)|((with_reducible refine And.intro ?_ ?_);(focus (first |omega|rfl|decide|grind)))|(with_reducible refine aw_block ?_)|((first |((with_reducible refine aw_regionA T_ok ?_ ?_);kernel_rfl)|((with_reducible refine aw_drawnC T_ok ?_ ?_ ?_ ?_);kernel_rfl;kernel_rfl;(focus (decide+kernel)))|(with_reducible refine aw_ret ?_) );simp only [↓avP,avQ,avR,forall_const,implies_true,Nat.reduceEqDiff,Nat.reduceAdd,Nat.reduceSub,Nat.reduceLeDiff,Nat.reduceLT,reduceCtorEq,↓hwpC.eq_def,↓hopC.eq_def,↓apKH.eq_def,↓apH.eq_def,rqOk,lkC,delO,takes,whoMakes,headC,tailC,isTC,Option.some.injEq,avS,netD_B,ty_52,ty_23,ty_26];try simp (disch:=omega) only [avW]))
 exact Sub.aggL ⟨.sl (subEs_eq (by simp [cutN])),.refl _,trivial⟩
theorem q06Lose_spec (n:NetP) (i:Int) (hn:okNet n):Spec Tryz.prog 27 [.agg (netD n),aI i] (.rt [.agg (netD (loseN n i)),aI (atErr n i)]):=by
 have hs:=q06asked_spec n i hn
 refine spec_of T_ok Tryz.func27 (by dsimp only [Tryz.f27]) rfl rfl (by simp) fun w F=>?_
 cases h1:(atErr n i != 0) with
 |true=>
   repeat' (first |(with_reducible first |refine aw_seq ?_|refine two_t ?_)|((with_reducible refine And.intro ?_ ?_);(focus (rfl)))|((first |((with_reducible refine aw_regionA T_ok ?_ ?_);kernel_rfl)|((with_reducible refine callI_spec (hs) ?_ ?_ ?_ ?_);(focus (with_unfolding_all rfl));kernel_rfl;kernel_rfl)|((with_reducible refine aw_condM ?_ ?_);kernel_rfl)|(with_reducible refine aw_ret ?_) );simp only [↓avP,avQ,avR,forall_const,implies_true,Nat.reduceEqDiff,Nat.reduceAdd,Nat.reduceLeDiff,reduceCtorEq,avS,netD_B,ty_26,h1]))
   rw [loseN,if_neg (by simpa using h1)]
   exact ⟨sub_net0,Sub.refl _⟩
 |false=>
   have h0:atErr n i=0:=by simpa using h1
   obtain ⟨k,rfl,hk⟩:=at_lt h0
   have hw:=q06without_spec n k hn hk
   repeat' (first |(with_reducible first |refine aw_seq ?_|refine two_f ?_)|((with_reducible refine And.intro ?_ ?_);(focus (rfl)))|((first |((with_reducible refine aw_regionA T_ok ?_ ?_);kernel_rfl)|((with_reducible refine callI_spec (hs) ?_ ?_ ?_ ?_);(focus (with_unfolding_all rfl));kernel_rfl;kernel_rfl)|((with_reducible refine callI_spec (hw) ?_ ?_ ?_ ?_);(focus (with_unfolding_all rfl));kernel_rfl;kernel_rfl)|(with_reducible refine aw_skip ?_)|((with_reducible refine aw_condM ?_ ?_);kernel_rfl)|(with_reducible refine aw_ret ?_) );simp only [↓avP,avQ,avR,forall_const,implies_true,Nat.reduceEqDiff,Nat.reduceAdd,Nat.reduceLeDiff,reduceCtorEq,avS,netD_B,ty_26,h1]))
   rw [loseN,if_pos h0,Int.toNat_natCast,h0]
   exact ⟨Sub.refl _,Sub.refl _⟩
theorem q06Repeat_spec (n:NetP) (i:Int) (hn:okNet n):Spec Tryz.prog 28 [.agg (netD n),aI i] (.rt [.agg (netD (repN n i)),aI (repErr n i)]):=by
 have hs:=q06asked_spec n i hn
 refine spec_of T_ok Tryz.func28 (by dsimp only [Tryz.f28]) rfl rfl (by simp) fun w F=>?_
 cases h1:(atErr n i != 0) with
 |true=>
   have h0:atErr n i≠0:=by simpa using h1
   repeat' (first |(with_reducible first |refine aw_seq ?_|refine two_t ?_)|((with_reducible refine And.intro ?_ ?_);(focus (rfl)))|((first |((with_reducible refine aw_regionA T_ok ?_ ?_);kernel_rfl)|((with_reducible refine callI_spec (hs) ?_ ?_ ?_ ?_);(focus (with_unfolding_all rfl));kernel_rfl;kernel_rfl)|((with_reducible refine aw_condM ?_ ?_);kernel_rfl)|(with_reducible refine aw_ret ?_) );simp only [↓avP,avQ,avR,forall_const,implies_true,Nat.reduceEqDiff,Nat.reduceAdd,Nat.reduceLeDiff,reduceCtorEq,avS,netD_B,ty_26,h1]))
   rw [repN,repErr,if_pos h0,if_pos h0]
   exact ⟨sub_net0,Sub.refl _⟩
 |false=>
   have h0:atErr n i=0:=by simpa using h1
   obtain ⟨k,rfl,hk⟩:=at_lt h0
   have hat:atP n k=n.queue.getD k default:=by rw [atP,if_pos h0,Int.toNat_natCast]
   have hse:=q06Send_spec n (n.queue.getD k default) hn
   repeat' (first |(with_reducible first |refine aw_seq ?_|refine two_f ?_)|((with_reducible refine And.intro ?_ ?_);(focus (first |omega|rfl)))|((first |((with_reducible refine aw_regionA T_ok ?_ ?_);kernel_rfl)|((with_reducible refine aw_drawnF T_ok ?_ ?_ ?_ ?_);kernel_rfl;kernel_rfl;(focus (decide+kernel)))|((with_reducible refine callI_spec (hs) ?_ ?_ ?_ ?_);(focus (with_unfolding_all rfl));kernel_rfl;kernel_rfl)|((with_reducible refine callK_intro (hse) ?_ ?_ ?_);(focus (with_unfolding_all rfl));kernel_rfl)|(with_reducible refine aw_skip ?_)|((with_reducible refine aw_condM ?_ ?_);kernel_rfl)|(with_reducible refine aw_ret ?_) );simp only [↓avP,avQ,avR,forall_const,implies_true,Nat.reduceEqDiff,Nat.reduceAdd,Nat.reduceLeDiff,reduceCtorEq,avS,netD_B,pkD_B,ty_52,ty_23,ty_26,h1];try simp (disch:=omega) only [Int.toNat_natCast]))
   rw [repN,repErr,if_neg (by simpa using h0),if_neg (by simpa using h0),hat]
   exact ⟨Sub.refl _,Sub.refl _⟩
theorem q06IsCut_spec (n:NetP) (a b:Int) (hn:okNet n):Spec Tryz.prog 87 [.agg (netD n),aI a,aI b] (.r1 (aB (decide (mm a b∈n.apart)))):=by
 obtain ⟨hq,ha⟩:=hn
 refine spec_of T_ok Tryz.func87 (by dsimp only [Tryz.f87]) rfl rfl (by simp) fun w F=>?_
 repeat' (first |(with_reducible refine aw_seq ?_)|((with_reducible refine And.intro ?_ ?_);(focus (first |omega|rfl|decide|grind)))|(with_reducible refine aw_block ?_)|((first |((with_reducible refine aw_regionA T_ok ?_ ?_);kernel_rfl)|((with_reducible refine aw_drawnC T_ok ?_ ?_ ?_ ?_);kernel_rfl;kernel_rfl;(focus (decide+kernel)))|(with_reducible refine aw_ret ?_) );simp only [↓avP,avQ,avR,forall_const,implies_true,Nat.reduceEqDiff,Nat.reduceAdd,Nat.reduceSub,Nat.reduceLeDiff,Nat.reduceLT,reduceCtorEq,↓hwpC.eq_def,↓hopC.eq_def,↓apKH.eq_def,↓apH.eq_def,rqOk,lkC,delO,takes,whoMakes,headC,tailC,isTC,Option.some.injEq,avS,netD_B,ty_52,ty_23,ty_26];try simp (disch:=omega) only [avW]))
 refine aw_loopI (fun k:Nat=>⟨[(1,vI a),(2,vI b),(3,.ptr 0 0),(6,vB false),(7,vI k)],[(0,.cells 26 (dV (netD n)))],1⟩) (fun k=>k≤n.apart.length∧∀ i,i < k→n.apart.getD i default≠mm a b) (fun k=>n.apart.length - k) 0 ⟨Nat.zero_le _,fun i hi=>absurd hi (Nat.not_lt_zero i)⟩ (wk_of [(0,some 0)] rfl rfl ?_ ?_) ?_
 ·simp only [wkA,reduceIte,Nat.reduceEqDiff]
  (repeat' (first |rfl|exact subVs_d _ _))
 ·simp only [wkA,reduceIte,Nat.reduceEqDiff]
  (repeat' (first |rfl|exact subVs_d _ _))
 rintro k ⟨hk,h0⟩
 rcases Nat.lt_or_ge k n.apart.length with hlt|hge
 ·have hd2:=ltd hlt
  have hnext:n.apart.getD k default≠mm a b→∀ i,i < k+1→n.apart.getD i default≠mm a b:=fun h i hi=>by
   rcases Nat.lt_succ_iff_lt_or_eq.1 hi with h'|rfl
   ·exact h0 i h'
   ·exact h
  have hm:n.apart.getD k default∈n.apart:=mem_getD hlt
  generalize hx:n.apart.getD k default=x at *
  cases b1:(x.1==(mm a b).1) with
  |false=>
    have c1:(x.1==(if b < a then b else a))=false:=b1
    repeat' (first |(with_reducible first |refine aw_seq ?_|refine two_t ?_|refine two_f ?_)|((with_reducible refine And.intro ?_ ?_);(focus (omega)))|(with_reducible refine aw_block ?_)|((first |((with_reducible refine aw_regionA T_ok ?_ ?_);kernel_rfl)|(with_reducible refine aw_skip ?_)|((with_reducible refine aw_condM ?_ ?_);kernel_rfl) );simp only [↓avP,avQ,avR,forall_const,implies_true,Nat.reduceEqDiff,Int.reduceToNat,reduceCtorEq,netD_B,prD_B,ty_3,ty_101,ty_24,ty_26,hd2,hx,c1];try simp (disch:=omega) only [av_w]))
    refine ⟨k+1,⟨by omega,hnext (fun h=>by rw [h,beq_self_eq_true] at b1;cases b1)⟩,by dsimp only;omega,wk_of [(0,some 0)] rfl rfl ?_ ?_⟩
    ·simp only [wkA,reduceIte,Nat.reduceEqDiff]
     (repeat' (first |rfl|exact subVs_d _ _))
    ·simp only [wkA,reduceIte,Nat.reduceEqDiff]
     (repeat' (first |rfl|exact subVs_d _ _))
  |true=>
  have c1:(x.1==(if b < a then b else a))=true:=b1
  cases b2:(x.2==(mm a b).2) with
  |false=>
    have c2:(x.2==(if b > a then b else a))=false:=b2
    repeat' (first |(with_reducible first |refine aw_seq ?_|refine two_t ?_|refine two_f ?_)|((with_reducible refine And.intro ?_ ?_);(focus (omega)))|(with_reducible refine aw_block ?_)|((first |((with_reducible refine aw_regionA T_ok ?_ ?_);kernel_rfl)|(with_reducible refine aw_skip ?_)|((with_reducible refine aw_condM ?_ ?_);kernel_rfl)|(with_reducible refine aw_ret ?_) );simp only [↓avP,avQ,avR,forall_const,implies_true,Nat.reduceEqDiff,Int.reduceToNat,reduceCtorEq,netD_B,prD_B,ty_3,ty_101,ty_24,ty_26,hd2,hx,c1,c2];try simp (disch:=omega) only [avW]))
    refine ⟨k+1,⟨by omega,hnext (fun h=>by rw [h,beq_self_eq_true] at b2;cases b2)⟩,by dsimp only;omega,wk_of [(0,some 0)] rfl rfl ?_ ?_⟩
    ·simp only [wkA,reduceIte,Nat.reduceEqDiff]
     (repeat' (first |rfl|exact subVs_d _ _))
    ·simp only [wkA,reduceIte,Nat.reduceEqDiff]
     (repeat' (first |rfl|exact subVs_d _ _))
  |true=>
    have c2:(x.2==(if b > a then b else a))=true:=b2
    have hin:decide (mm a b∈n.apart)=true:=decide_eq_true (by rw [← Prod.ext (beq_iff_eq.1 b1) (beq_iff_eq.1 b2)];exact hm)
    repeat' (first |(with_reducible first |refine aw_seq ?_|refine two_t ?_|refine two_f ?_)|((with_reducible refine And.intro ?_ ?_);(focus (omega)))|(with_reducible refine aw_block ?_)|((first |((with_reducible refine aw_regionA T_ok ?_ ?_);kernel_rfl)|(with_reducible refine aw_skip ?_)|((with_reducible refine aw_condM ?_ ?_);kernel_rfl)|(with_reducible refine aw_ret ?_) );simp only [↓avP,avQ,avR,forall_const,implies_true,Nat.reduceEqDiff,Int.reduceToNat,reduceCtorEq,netD_B,prD_B,ty_3,ty_101,ty_24,ty_26,hd2,hx,c1,c2];try simp (disch:=omega) only [avW]))
    exact Sub.of_eq (congrArg aB hin.symm)
 ·obtain rfl:k=n.apart.length:=by omega
  have hd2:=ged (Nat.le_refl n.apart.length)
  have hin:decide (mm a b∈n.apart)=false:=decide_eq_false (fun h=>by
   obtain ⟨i,hi,e⟩:=List.getElem_of_mem h
   refine h0 i hi ?_
   rw [List.getD_eq_getElem?_getD,List.getElem?_eq_getElem hi,Option.getD_some,e])
  repeat' (first |(with_reducible first |refine aw_seq ?_|refine two_f ?_)|((first |((with_reducible refine aw_regionA T_ok ?_ ?_);kernel_rfl)|(with_reducible refine aw_exit ?_)|((with_reducible refine aw_condM ?_ ?_);kernel_rfl)|(with_reducible refine aw_ret ?_) );simp only [↓avP,avQ,avR,forall_const,implies_true,Nat.reduceEqDiff,reduceCtorEq,avS,netD_B,ty_24,ty_26,hd2]))
  exact Sub.of_eq (congrArg aB hin.symm)
def fewN (n:NetP):Bool:=decide ((n.queue.length:Int)≤40)&&decide ((n.apart.length:Int)≤40)
theorem q06Few_spec (n:NetP):Spec Tryz.prog 16 [.agg (netD n)] (.r1 (aB (fewN n))):=by
 refine spec_of T_ok Tryz.func16 (by dsimp only [Tryz.f16]) rfl rfl (by simp) fun w F=>?_
 cases h1:decide ((n.queue.length:Int)≤40) with
 |true=>
   repeat' (first |(with_reducible refine aw_seq ?_)|((first |((with_reducible refine aw_regionA T_ok ?_ ?_);kernel_rfl)|(with_reducible refine aw_ret ?_) );simp only [↓avP,avQ,avR,forall_const,implies_true,Nat.reduceEqDiff,reduceCtorEq,avS,netD_B,ty_23,ty_24,ty_26,h1]))
   exact Sub.of_eq (by rw [fewN,h1];rfl)
 |false=>
   repeat' (first |(with_reducible refine aw_seq ?_)|((first |((with_reducible refine aw_regionA T_ok ?_ ?_);kernel_rfl)|(with_reducible refine aw_ret ?_) );simp only [↓avP,avQ,avR,forall_const,implies_true,Nat.reduceEqDiff,reduceCtorEq,avS,netD_B,ty_23,ty_24,ty_26,h1]))
   exact Sub.of_eq (by rw [fewN,h1];rfl)

theorem q06New_spec:Spec Tryz.prog 30 [] (.r1 (.agg (netD ⟨[],[]⟩))):=by
 refine spec_of T_ok Tryz.func30 (by dsimp only [Tryz.f30]) rfl rfl (by simp) fun w F=>?_
 repeat' (first |(with_reducible refine aw_seq ?_)|((with_reducible refine And.intro ?_ ?_);(focus (rfl)))|((first |((with_reducible refine aw_regionA T_ok ?_ ?_);kernel_rfl)|(with_reducible refine aw_ret ?_) );simp only [↓avP,avQ,avR,forall_const,implies_true,Nat.reduceEqDiff,Nat.reduceAdd,Nat.reduceLeDiff,reduceCtorEq,avS,netD_B,ty_28,ty_26]))
 exact sub_net0
theorem q54new_spec (n:Int):Spec Tryz.prog 9 [aI n] (.rt [aRoom (newR n),aI (newE n)]):=by
 refine spec_of T_ok Tryz.func9 (by dsimp only [Tryz.f9]) rfl rfl (by simp) fun w F=>?_
 by_cases h1:n < 1
 ·have hd1:decide (n < 1)=true:=decide_eq_true h1
  repeat' (first |(with_reducible first |refine aw_seq ?_|refine two_t ?_)|((with_reducible refine And.intro ?_ ?_);(focus (rfl)))|((first |((with_reducible refine aw_regionA T_ok ?_ ?_);kernel_rfl)|((with_reducible refine aw_condM ?_ ?_);kernel_rfl)|(with_reducible refine aw_ret ?_) );simp only [↓avP,avQ,avR,forall_const,implies_true,Nat.reduceEqDiff,Nat.reduceAdd,Nat.reduceLeDiff,reduceCtorEq,avS,ty_28,hd1]))
  rw [newR,newE,if_pos (.inl h1),if_pos (.inl h1)]
  exact ⟨sub_room0,Sub.refl _⟩
 have hd1:decide (n < 1)=false:=decide_eq_false h1
 by_cases h2:n > 24
 ·have hd2:decide (n > 24)=true:=decide_eq_true h2
  repeat' (first |(with_reducible first |refine aw_seq ?_|refine two_t ?_)|((with_reducible refine And.intro ?_ ?_);(focus (rfl)))|((first |((with_reducible refine aw_regionA T_ok ?_ ?_);kernel_rfl)|((with_reducible refine aw_condM ?_ ?_);kernel_rfl)|(with_reducible refine aw_ret ?_) );simp only [↓avP,avQ,avR,forall_const,implies_true,Nat.reduceEqDiff,Nat.reduceAdd,Nat.reduceLeDiff,reduceCtorEq,avS,ty_28,hd1,hd2]))
  rw [newR,newE,if_pos (.inr h2),if_pos (.inr h2)]
  exact ⟨sub_room0,Sub.refl _⟩
 have hd2:decide (n > 24)=false:=decide_eq_false h2
 have hn:¬ (n < 1∨n > 24):=by omega
 have hn0:0≤n:=by omega
 have hn1:n≤1048576:=by omega
 repeat' (first |(with_reducible first |refine aw_seq ?_|refine aw_stop (id:=3) ?_|refine two_f ?_)|((with_reducible refine And.intro ?_ ?_);(focus (rfl)))|((first |((with_reducible refine aw_regionA T_ok ?_ ?_);kernel_rfl)|(with_reducible refine aw_skip ?_)|((with_reducible refine aw_condM ?_ ?_);kernel_rfl) );simp only [↓avP,avQ,avR,forall_const,implies_true,Nat.reduceEqDiff,reduceCtorEq,avS,ty_28,hd1,hd2]))
 refine ⟨?_⟩
 refine aw_frzQ 2 peer0 (List.replicate n.toNat peer0) ?_
 repeat' (first |((with_reducible refine And.intro ?_ ?_);(focus (first |rfl|decide)))|((first |((with_reducible refine aw_drawnF T_ok ?_ ?_ ?_ ?_);kernel_rfl;kernel_rfl;(focus (decide+kernel)))|((with_reducible refine callK_intro (q06New_spec) ?_ ?_ ?_);(focus (with_unfolding_all rfl));kernel_rfl) );simp only [↓avP,avQ,avR,forall_const,implies_true,Nat.reduceEqDiff,Nat.reduceAdd,Nat.reduceLeDiff,Nat.reduceLT,reduceCtorEq,avS,netD_B,ty_28,ty_22,ty_56,hn0,hn1,frzQ.eq_def]))
 refine ⟨_,_,_,_,rfl,by rw [List.map_replicate];rfl,?_⟩
 simp only [frzS,frzM,frzK,frz1,frz2,frz_dV,List.map_cons,List.map_nil,setB,reduceIte,Nat.reduceEqDiff]
 repeat' (first |(with_reducible refine aw_seq ?_)|((with_reducible refine And.intro ?_ ?_);(focus (rfl)))|((first |((with_reducible refine aw_regionA T_ok ?_ ?_);kernel_rfl)|(with_reducible refine aw_ret ?_) );simp only [↓avP,avQ,avR,forall_const,implies_true,Nat.reduceEqDiff,Nat.reduceAdd,Nat.reduceLeDiff,reduceCtorEq,avS,netD_B,ty_28,ty_26]))
 rw [newR,newE,if_neg hn,if_neg hn]
 refine ⟨Sub.aggL ⟨.sl ?_,.refl _,.refl _,trivial⟩,Sub.refl _⟩
 rw [List.map_replicate]
 exact sub_reps _
def fewRB (r:RoomP):Bool:= !(decide ((r.peers.length:Int) > 5)&&decide ((r.peers.length:Int)≤24))&&fewN r.net&&(((List.range (min r.peers.length 30)).all fun i=>decide ((r.peers.getD i []).length≤30))&&(List.range r.net.queue.length).all fun i=>decide ((r.net.queue.getD i default).data.length≤1000))
theorem q54few_spec (r:RoomP) (hp:r.peers.length≤140737488351232) (hq:r.net.queue.length≤140737488351232):Spec Tryz.prog 5 [aRoom r] (.r1 (aB (fewRB r))):=by
 have hnf:=q06Few_spec r.net
 rw [netD] at hnf
 refine spec_of T_ok Tryz.func5 (by dsimp only [Tryz.f5]) rfl rfl (by simp) fun w F=>?_
 have hcase:(decide ((r.peers.length:Int) > 5)=true∧decide ((r.peers.length:Int)≤24)=true)∨(decide ((r.peers.length:Int) > 5)=false∧decide ((r.peers.length:Int) > 5)=false∧(decide ((r.peers.length:Int) > 5)&&decide ((r.peers.length:Int)≤24))=false)∨(decide ((r.peers.length:Int) > 5)=true∧decide ((r.peers.length:Int)≤24)=false∧(decide ((r.peers.length:Int) > 5)&&decide ((r.peers.length:Int)≤24))=false):=by
  cases decide ((r.peers.length:Int) > 5)<;>cases decide ((r.peers.length:Int)≤24)<;>simp
 rcases hcase with ⟨c1,c2⟩|⟨c1,c2,hb⟩|⟨c1,c2,hb⟩
 ·repeat' (first |(with_reducible first |refine aw_seq ?_|refine two_t ?_)|((first |((with_reducible refine aw_regionA T_ok ?_ ?_);kernel_rfl)|((with_reducible refine callK_intro (hnf) ?_ ?_ ?_);(focus (with_unfolding_all rfl));kernel_rfl)|((with_reducible refine aw_condM ?_ ?_);kernel_rfl)|(with_reducible refine aw_ret ?_) );simp only [↓avP,avQ,avR,forall_const,implies_true,Nat.reduceEqDiff,Nat.reduceAdd,Nat.reduceLeDiff,reduceCtorEq,avS,roomD_B,ty_28,ty_22,ty_26,c1,c2]))
  exact Sub.of_eq (congrArg aB (by rw [fewRB,c1,c2];rfl))
 all_goals
  cases h2:fewN r.net with
  |false=>
    rw [h2] at hnf
    repeat' (first |(with_reducible first |refine aw_seq ?_|refine two_t ?_|refine two_f ?_|refine aw_block ?_)|((first |((with_reducible refine aw_regionA T_ok ?_ ?_);kernel_rfl)|((with_reducible refine callK_intro (hnf) ?_ ?_ ?_);(focus (with_unfolding_all rfl));kernel_rfl)|(with_reducible refine aw_skip ?_)|((with_reducible refine aw_condM ?_ ?_);kernel_rfl)|(with_reducible refine aw_ret ?_) );simp only [↓avP,avQ,avR,forall_const,implies_true,Nat.reduceEqDiff,Nat.reduceAdd,Nat.reduceLeDiff,reduceCtorEq,avS,roomD_B,ty_28,ty_22,ty_26,c1,c2]))
    exact Sub.of_eq (congrArg aB (by rw [fewRB,h2,Bool.and_false];rfl))
  |true=>
    rw [h2] at hnf
    have hf0:fewRB r=(((List.range (min r.peers.length 30)).all fun i=>decide ((r.peers.getD i []).length≤30))&&(List.range r.net.queue.length).all fun i=>decide ((r.net.queue.getD i default).data.length≤1000)):=by rw [fewRB,hb,h2];rfl
    repeat' (first |(with_reducible first |refine aw_seq ?_|refine two_t ?_|refine two_f ?_|refine aw_block ?_)|((first |((with_reducible refine aw_regionA T_ok ?_ ?_);kernel_rfl)|((with_reducible refine callK_intro (hnf) ?_ ?_ ?_);(focus (with_unfolding_all rfl));kernel_rfl)|(with_reducible refine aw_skip ?_)|((with_reducible refine aw_condM ?_ ?_);kernel_rfl)|(with_reducible refine aw_ret ?_) );simp only [↓avP,avQ,avR,forall_const,implies_true,Nat.reduceEqDiff,Nat.reduceAdd,Nat.reduceLeDiff,reduceCtorEq,avS,roomD_B,ty_28,ty_22,ty_26,c1,c2]))
    refine aw_loopI (fun k:Nat=>⟨[(1,.ptr 0 0),(2,vB false),(3,vI k)],[(0,.cells 28 (dV (roomD r)))],1⟩) (fun k=>k≤r.peers.length∧k≤30∧∀ i,i < k→decide ((r.peers.getD i []).length≤30)=true) (fun k=>r.peers.length - k) 0 ⟨Nat.zero_le _,Nat.zero_le _,fun i hi=>absurd hi (Nat.not_lt_zero i)⟩ (wk_of [(0,some 0)] rfl rfl ?_ ?_) ?_
    ·simp only [wkA,reduceIte,Nat.reduceEqDiff]
     (repeat' (first |rfl|exact subVs_d _ _))
    ·simp only [wkA,reduceIte,Nat.reduceEqDiff]
     (repeat' (first |rfl|exact subVs_d _ _))
    rintro k ⟨hk,hk30,h0⟩
    by_cases hlt:k < r.peers.length∧k < 30
    ·obtain ⟨hlt,hlt30⟩:=hlt
     have hd3:=ltd hlt
     have hd4:decide ((k:Int) < 30)=true:=decide_eq_true (by omega)
     have hg:=getD_peers r.peers k hlt
     cases h3:decide (((r.peers.getD k []).length:Int) > 30) with
     |true=>
       repeat' (first |(with_reducible first |refine aw_seq ?_|refine two_t ?_|refine two_f ?_)|((with_reducible refine And.intro ?_ ?_);(focus (omega)))|(with_reducible refine aw_block ?_)|((first |((with_reducible refine aw_regionA T_ok ?_ ?_);kernel_rfl)|(with_reducible refine aw_skip ?_)|((with_reducible refine aw_condM ?_ ?_);kernel_rfl)|(with_reducible refine aw_ret ?_) );simp only [↓avP,avQ,avR,forall_const,implies_true,Nat.reduceEqDiff,reduceCtorEq,roomD_B,ty_28,ty_22,ty_56,ty_49,hd3,hd4,hg,h3];try simp (disch:=omega) only [avW]))
       refine Sub.of_eq (congrArg aB ?_)
       rw [hf0,List.all_eq_false.2 ⟨k,by simp;omega,by rw [decide_eq_false (by have:=of_decide_eq_true h3;omega)];simp⟩,Bool.false_and]
     |false=>
       repeat' (first |(with_reducible first |refine aw_seq ?_|refine two_t ?_|refine two_f ?_)|((with_reducible refine And.intro ?_ ?_);(focus (omega)))|(with_reducible refine aw_block ?_)|((first |((with_reducible refine aw_regionA T_ok ?_ ?_);kernel_rfl)|(with_reducible refine aw_skip ?_)|((with_reducible refine aw_condM ?_ ?_);kernel_rfl)|(with_reducible refine aw_ret ?_) );simp only [↓avP,avQ,avR,forall_const,implies_true,Nat.reduceEqDiff,reduceCtorEq,roomD_B,ty_28,ty_22,ty_56,ty_49,hd3,hd4,hg,h3];try simp (disch:=omega) only [avW]))
       refine ⟨k+1,⟨by omega,by omega,fun i hi=>?_⟩,by dsimp only;omega,wk_of [(0,some 0)] rfl rfl ?_ ?_⟩
       ·rcases Nat.lt_succ_iff_lt_or_eq.1 hi with h'|rfl
        ·exact h0 i h'
        ·have:=of_decide_eq_false h3;exact decide_eq_true (by omega)
       ·simp only [wkA,reduceIte,Nat.reduceEqDiff]
        (repeat' (first |rfl|exact subVs_d _ _))
       ·simp only [wkA,reduceIte,Nat.reduceEqDiff]
        (repeat' (first |rfl|exact subVs_d _ _))
    have hall:((List.range (min r.peers.length 30)).all fun i=>decide ((r.peers.getD i []).length≤30))=true:=List.all_eq_true.2 fun i hi=>h0 i (by rw [List.mem_range] at hi;omega)
    rw [hall,Bool.true_and] at hf0
    have hend:(decide ((k:Int) < (r.peers.length:Int))=true∧decide ((k:Int) < 30)=false)∨(decide ((k:Int) < (r.peers.length:Int))=false∧decide ((k:Int) < (r.peers.length:Int))=false):=by
     by_cases hkl:k < r.peers.length
     ·exact .inl ⟨decide_eq_true (by omega),decide_eq_false (by omega)⟩
     ·exact .inr ⟨decide_eq_false (by omega),decide_eq_false (by omega)⟩
    rcases hend with ⟨hc3,hc4⟩|⟨hc3,hc4⟩
    all_goals
     repeat' (first |(with_reducible first |refine aw_seq ?_|refine two_f ?_|refine aw_block ?_)|((first |((with_reducible refine aw_regionA T_ok ?_ ?_);kernel_rfl)|(with_reducible refine aw_exit ?_)|((with_reducible refine aw_condM ?_ ?_);kernel_rfl) );simp only [↓avP,avQ,avR,forall_const,implies_true,Nat.reduceEqDiff,reduceCtorEq,avS,roomD_B,ty_28,ty_22,hc3,hc4]))
     refine aw_loopI (fun k:Nat=>⟨[(1,.ptr 0 0),(2,vB false),(4,vI k)],[(0,.cells 28 (dV (roomD r)))],1⟩) (fun k=>k≤r.net.queue.length∧∀ i,i < k→decide ((r.net.queue.getD i default).data.length≤1000)=true) (fun k=>r.net.queue.length - k) 0 ⟨Nat.zero_le _,fun i hi=>absurd hi (Nat.not_lt_zero i)⟩ (wk_of [(0,some 0)] rfl rfl ?_ ?_) ?_
     ·simp only [wkA,reduceIte,Nat.reduceEqDiff]
      (repeat' (first |rfl|exact subVs_d _ _))
     ·simp only [wkA,reduceIte,Nat.reduceEqDiff]
      (repeat' (first |rfl|exact subVs_d _ _))
     rintro j ⟨hj,g0⟩
     rcases Nat.lt_or_ge j r.net.queue.length with hlt|hge
     ·have hd5:=ltd hlt
      cases h4:decide (((r.net.queue.getD j default).data.length:Int) > 1000) with
      |true=>
        repeat' (first |(with_reducible first |refine aw_seq ?_|refine two_t ?_|refine two_f ?_)|((with_reducible refine And.intro ?_ ?_);(focus (omega)))|(with_reducible refine aw_block ?_)|((first |((with_reducible refine aw_regionA T_ok ?_ ?_);kernel_rfl)|(with_reducible refine aw_skip ?_)|((with_reducible refine aw_condM ?_ ?_);kernel_rfl)|(with_reducible refine aw_ret ?_) );simp only [↓avP,avQ,avR,forall_const,implies_true,Nat.reduceEqDiff,reduceCtorEq,roomD_B,pkD_B,ty_28,ty_26,ty_23,ty_52,ty_50,hd5,h4];try simp (disch:=omega) only [avW]))
        refine Sub.of_eq (congrArg aB ?_)
        rw [hf0,List.all_eq_false.2 ⟨j,by simpa using hlt,by rw [decide_eq_false (by have:=of_decide_eq_true h4;omega)];simp⟩]
      |false=>
        repeat' (first |(with_reducible first |refine aw_seq ?_|refine two_t ?_|refine two_f ?_)|((with_reducible refine And.intro ?_ ?_);(focus (omega)))|(with_reducible refine aw_block ?_)|((first |((with_reducible refine aw_regionA T_ok ?_ ?_);kernel_rfl)|(with_reducible refine aw_skip ?_)|((with_reducible refine aw_condM ?_ ?_);kernel_rfl)|(with_reducible refine aw_ret ?_) );simp only [↓avP,avQ,avR,forall_const,implies_true,Nat.reduceEqDiff,reduceCtorEq,roomD_B,pkD_B,ty_28,ty_26,ty_23,ty_52,ty_50,hd5,h4];try simp (disch:=omega) only [avW]))
        refine ⟨j+1,⟨by omega,fun i hi=>?_⟩,by dsimp only;omega,wk_of [(0,some 0)] rfl rfl ?_ ?_⟩
        ·rcases Nat.lt_succ_iff_lt_or_eq.1 hi with h'|rfl
         ·exact g0 i h'
         ·have:=of_decide_eq_false h4;exact decide_eq_true (by omega)
        ·simp only [wkA,reduceIte,Nat.reduceEqDiff]
         (repeat' (first |rfl|exact subVs_d _ _))
        ·simp only [wkA,reduceIte,Nat.reduceEqDiff]
         (repeat' (first |rfl|exact subVs_d _ _))
     ·obtain rfl:j=r.net.queue.length:=by omega
      have hd5:=ged (Nat.le_refl r.net.queue.length)
      repeat' (first |(with_reducible first |refine aw_seq ?_|refine two_f ?_)|((first |((with_reducible refine aw_regionA T_ok ?_ ?_);kernel_rfl)|(with_reducible refine aw_exit ?_)|((with_reducible refine aw_condM ?_ ?_);kernel_rfl)|(with_reducible refine aw_ret ?_) );simp only [↓avP,avQ,avR,forall_const,implies_true,Nat.reduceEqDiff,reduceCtorEq,avS,roomD_B,ty_28,ty_26,ty_23,hd5]))
      exact Sub.of_eq (congrArg aB (hf0.trans (List.all_eq_true.2 fun i hi=>g0 i (by simpa using hi))).symm)

section
variable {P:Program} {B:Base} {T:Tab}
def inP (N:Nat) (ch:List PanicEntry) (K:St→Prop):AQ:=fun e s=>match e with
 | .panic c=>c=ch∧K ⟨unT N s.tm,s.st,s.nx⟩
 |_=>False
theorem callP_in {f:FuncId} {fn:Func} {c:Code} {vs:List V} {ch:List PanicEntry} {s:St} {K:St→Prop} {N:Nat} (hf:P.funcs[f]? =some fn) (hN:fn.ntmps=N) (hb:fn.body=some c)
  (hname:(P.funcs[f]?).any (fun fn=>fn.name != "runtime.NumGoroutine" &&fn.body.isSome)=true) (hn:vs.length≤N)
  (h:∀ a,AW P (B.inn N (vOf B a) (gdOf B a)) c (inP N ch K) ⟨⟩ ⟨inV 0 vs++shT N s.tm,s.st,s.nx⟩):callP P B f vs ch s K ⟨⟩:=by
 subst hN
 refine ⟨hname,fun E a us hG hv=>callsIn_wide.1 (callsIn_of_wp_marks (F:=Fence.wide) (n:=0) hf hb trivial (Code.wpIn_mono ?_ (h a E _ (gam_enter hG hv hn))) rfl)⟩
 rintro e a' w' ⟨E0,s',rfl,hG0,hq⟩
 cases e<;>simp only [inP] at hq<;>try exact hq.elim
 obtain ⟨rfl,hK⟩:=hq
 rename_i ch
 obtain ⟨ds,hds,hnd,hdp,hgd⟩:=hG0.2.defers
 obtain ⟨E',hS,hX,hk,hL⟩:=leaves_ofG (fn:=fn) (u:= .panicking ch) (X:=[]) (R:=fun e w'=>∃ E' s',e= .panicked ch∧E'.w=w'∧Gam P B s' E' a∧K s') (by simp) ds E0 hG0.1 hnd (fun D hD=>(hdp D hD).1) a'.tmps
 have hkeep:∀ D,gdOf B a D→E'.dp D:=fun D hD=>hk D (hgd D hD) (fun hm=>(hdp D hm).2 hD)
 have hG':Gam P (B.inn fn.ntmps (vOf B a) (gdOf B a)) s' E' ⟨a'.tmps,[]⟩:=⟨hS,fun t=>RV.mono hX _ _ (hG0.2.tm t),⟨[],⟨rfl,fun _ h=>(by cases h)⟩,List.nodup_nil,fun D hD=>(by cases hD),hkeep⟩,hG0.2.size⟩
 show LeavesInM Fence.wide 0 P fn a'.tmps _ a'.defers (.panicking ch) E0.w
 rw [hds.1,show (B.inn fn.ntmps (vOf B a) (gdOf B a)).df=[] from rfl,List.append_nil]
 have hgl:=gam_leave (N:=fn.ntmps) (ds:=ds) hG hS hG'.2.tm hkeep
 rw [List.append_nil] at hL
 exact hL ⟨E',⟨unT fn.ntmps s'.tm,s'.st,s'.nx⟩,rfl,rfl,hgl,hK⟩
theorem callI_wk {f:FuncId} {vs:List V} {d:Option Tmp} {s s1:St} {K:St→Prop} (h:callI P B f vs d s (fun s'=>Wk P B s' s1) ⟨⟩) (hK:K s1):callI P B f vs d s K ⟨⟩:=by
 refine ⟨h.1,fun E a us hG hv=>(h.2 E a us hG hv).mono ?_⟩
 rintro e w' ⟨u,E',s',rfl,rfl,hG',hw⟩
 obtain ⟨E2,e2,hG2⟩:=hw E' _ hG'
 exact ⟨u,E2,s1,rfl,e2,hG2,hK⟩
theorem callP_wk {f:FuncId} {vs:List V} {ch:List PanicEntry} {s s1:St} {K:St→Prop} (h:callP P B f vs ch s (fun s'=>Wk P B s' s1) ⟨⟩) (hK:K s1):callP P B f vs ch s K ⟨⟩:=by
 refine ⟨h.1,fun E a us hG hv=>(h.2 E a us hG hv).mono ?_⟩
 rintro e w' ⟨E',s',rfl,rfl,hG',hw⟩
 obtain ⟨E2,e2,hG2⟩:=hw E' _ hG'
 exact ⟨E2,s1,rfl,e2,hG2,hK⟩
theorem callI_d {f:FuncId} {vs:List V} {t n sz:Nat} {d0:List D} {es:List (List D)} {tm:List (Nat×V)} {st:List (Nat×Blk)} {nx:Nat} {s:St} {K:St→Prop}
  (h:callI P B f vs (some t) s (fun s'=>s'=⟨put (some t) (.ow n sz d0 es) tm,st,nx⟩) ⟨⟩) (hK:K ⟨put (some t) (.d (.sl sz d0 es)) tm,st,nx⟩):callI P B f vs (some t) s K ⟨⟩:=by
 refine ⟨h.1,fun E a us hG hv=>(h.2 E a us hG hv).mono ?_⟩
 rintro e w' ⟨u,E',s',rfl,rfl,hG',rfl⟩
 refine ⟨u,E',⟨put (some t) (.d (.sl sz d0 es)) tm,st,nx⟩,rfl,rfl,⟨hG'.1,⟨fun k=>?_,hG'.2.defers,hG'.2.size⟩⟩,hK⟩
 have:=hG'.2.tm k
 simp only [put,lkT_setT] at this ⊢
 by_cases hk:k=t
 ·rw [if_pos hk] at this ⊢
  simp only [RV] at this ⊢
  exact this.2
 ·rw [if_neg hk] at this ⊢
  exact this
end

theorem flat_take {sz:Nat}:∀ (es:List (List D)) (i:Nat),(∀ x∈es,x.length=sz)→es.flatten.take (i * sz)=(es.take i).flatten∧es.flatten.drop (i * sz)=(es.drop i).flatten
 |[],i,_=>by simp
 |e :: es,0,_=>by simp
 |e :: es,i+1,h=>by
   have hl:=h e (by simp)
   obtain ⟨h1,h2⟩:=flat_take es i (fun x hx=>h x (by simp [hx]))
   have he:(i+1) * sz=e.length+i * sz:=by rw [hl,Nat.add_mul];omega
   simp only [List.flatten_cons,List.take_succ_cons,List.drop_succ_cons]
   rw [he,List.take_length_add_append,List.drop_length_add_append,h1,h2]
   exact ⟨rfl,rfl⟩
theorem callI_insH0 {B:Base} {s:St} {d:Option Tmp} {K:St→Prop} {n m i:Nat} {d0:List V} {dd dx:List D} {es:List (List D)} {x:List D}
  (hd:(match d with|some t=>decide (t < B.N)|none=>true)=true) (hlk:lkB s.st n=some (.row 36 42 d0 (es.map dV))) (hlm:lkB s.st m=some (.tok 36 42 1)) (hnm:n≠m)
  (hi:i≤es.length) (hmax:es.length≤1048576) (hel:∀ y∈es,y.length=42) (hx:x.length=42)
  (hK:K ⟨put d (.ow s.nx 42 dd (es.take i++[x]++es.drop i)) s.tm,(s.nx,.tok 36 42 (es.take i++[x]++es.drop i).length) :: delB n s.st,s.nx+1⟩):callI Tryz.prog B 78 [.mo n,vI i,.ow m 42 dx [x]] d s K ⟨⟩:=by
 have hfl:(es.take i++[x]++es.drop i).length=es.length+1:=by simp only [List.length_append,List.length_take,List.length_drop,List.length_cons,List.length_nil];omega
 refine callI_regrow (el:=36) (sz:=42) (dd:=dd) (fs:=es.take i++[x]++es.drop i) (by kernel_rfl) hd hlk (by omega) (fun y hy=>?_) (fun E a us v ys hG hv h1 hown hR hone=>?_) hK
 ·simp only [List.mem_append,List.mem_singleton] at hy
  rcases hy with (hy|rfl)|hy
  ·exact hel y (List.mem_of_mem_take hy)
  ·exact hx
  ·exact hel y (List.mem_of_mem_drop hy)
 ·simp only [RVL] at hv
  obtain ⟨v',r,rfl,hv1,u2,r2,rfl,hv2,xv,r3,rfl,hv3,rfl⟩:=hv
  simp only [RV,RD] at hv1 hv2
  subst hv2
  obtain rfl:v'=v:=by have:=hv1.1;rw [h1] at this;exact (Option.some.inj this).symm
  have hv3':E.η m=some xv∧RD E.F E.w (.sl 42 dx [x]) xv:=by simpa only [RV] using hv3
  obtain ⟨v2,us2,g1,g2,g3⟩:=hG.1.st m _ hlm
  obtain rfl:v2=xv:=by rw [hv3'.1] at g1;exact (Option.some.inj g1).symm
  obtain ⟨c1,c2,c3,_⟩:=own_cells (es:=[x]) hv3'.2 g2
  rw [List.length_map] at hown
  have hys:RDL E.F E.w es.flatten ys:=RVL.to_data (by rw [← dV_flat];exact hR)
  have hb2:∃ b,hb v2=some b:=by
   rcases g2.2 with ⟨_,h0⟩|⟨g,cap,cur,rfl,_⟩
   ·omega
   ·exact ⟨g,rfl⟩
  obtain ⟨a1,cc1,e1,_⟩:=own_form hown
  obtain ⟨a2,cc2,e2,_⟩:=own_form g2
  refine (insH_any E.w v' v2 es.length i ys us2 hi (by omega) hown g2 ?_ hone c2).mono ?_
  ·rw [ownBlock_hb e1,ownBlock_hb e2]
   obtain ⟨b,hb2⟩:=hb2
   intro e
   exact hG.1.dist n m _ _ b v' v2 hnm hlk hlm h1 hv3'.1 (e.trans hb2) hb2
  ·rintro e w' ⟨v3,rfl,k1,k2⟩
   refine ⟨v3,_,rfl,by rw [hfl];exact k1,k2,?_,?_⟩
   ·obtain ⟨f1,f2⟩:=flat_take (sz:=42) es i hel
    have t1:=RDL.take (i * 42) hys
    have t2:=RDL.drop (i * 42) hys
    rw [f1] at t1
    rw [f2] at t2
    have:=RDL.append (RDL.append t1 c1) t2
    simpa using this
   ·intro u hu
    simp only [List.mem_append] at hu
    rcases hu with (hu|hu)|hu
    ·exact hone u (List.mem_of_mem_take hu)
    ·exact c2 u hu
    ·exact hone u (List.mem_of_mem_drop hu)
theorem callI_insH {B:Base} {s:St} {t:Nat} {K:St→Prop} {n m i:Nat} {d0:List V} {dd dx:List D} {es:List (List D)} {x:List D}
  (hd:decide (t < B.N)=true) (hlk:lkB s.st n=some (.row 36 42 d0 (es.map dV))) (hlm:lkB s.st m=some (.tok 36 42 1)) (hnm:n≠m)
  (hi:i≤es.length) (hmax:es.length≤1048576) (hel:∀ y∈es,y.length=42) (hx:x.length=42)
  (hK:K ⟨put (some t) (.d (.sl 42 dd (es.take i++[x]++es.drop i))) s.tm,(s.nx,.tok 36 42 (es.take i++[x]++es.drop i).length) :: delB n s.st,s.nx+1⟩):callI Tryz.prog B 78 [.mo n,vI i,.ow m 42 dx [x]] (some t) s K ⟨⟩:=
 callI_d (callI_insH0 (dd:=dd) hd hlk hlm hnm hi hmax hel hx rfl) hK
end Go.Proofs.YthidfoohhhkobaaGreat
