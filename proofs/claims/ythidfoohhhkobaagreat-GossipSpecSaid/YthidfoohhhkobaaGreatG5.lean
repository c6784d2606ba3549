import Derived.Test.YthidfoohhhkobaaGreatG4
import Derived.Test.YthidfoohhhkobaaGreatG3
import Derived.WalkKit
import Derived.WalkLawsBesides
import Derived.WalkSpells
import Derived.Lib.Hide
import Derived.Deep.QuietTactic
import Derived.BigQuiet
import Derived.Deep.LoopGhost
import Derived.Deep.DeepCutAuto
import Derived.Deep.DeepFit
import Derived.Deep.Light
import Derived.Maps.Range
import Derived.Maps.AppendAt
import Derived.StillTailTactics
import Derived.Lib.AppendStr
import Derived.Deep.AppendLies
import Derived.Deep.RegionHeld3
import Derived.Deep.DrawnRows
namespace Go.Proofs.YthidfoohhhkobaaGreat
set_option linter.unusedSimpArgs false
set_option linter.unusedVariables false
open Go.RowKit
set_option maxRecDepth 100000
set_option maxHeartbeats 4000000
def siteB (n:Int):Bool:=decide (n≥0)&&decide (n < 24)
theorem q06Site_spec (n:Int):Spec Tryz.prog 70 [aI n] (.r1 (aB (siteB n))):=by
 refine spec_of T_ok Tryz.func70 (by dsimp only [Tryz.f70]) rfl rfl (by simp) fun w F=>?_
 repeat' (first |(with_reducible refine aw_seq ?_)|((first |((with_reducible refine aw_regionA T_ok ?_ ?_);kernel_rfl)|(with_reducible refine aw_ret ?_) );simp only [↓avP,avQ,avR,forall_const,implies_true,Nat.reduceEqDiff,reduceCtorEq,avS]))
 all_goals exact Sub.refl _
theorem link_site (a b:Int):linkB (mm a b)=(siteB a&&siteB b&&(a != b)):=by
 unfold linkB mm siteB
 rw [Bool.eq_iff_iff]
 simp only [Bool.and_eq_true,decide_eq_true_eq,bne_iff_ne,ne_eq]
 split<;>split<;>omega
theorem packet_site (p:Pk):packetB p=(siteB p.frm&&siteB p.to_&&(p.frm != p.to_)&&decide ((p.data.length:Int)≤1048576)):=by
 unfold packetB
 rw [link_site]
theorem q06Packet_spec (p:Pk):Spec Tryz.prog 69 [aPk p] (.r1 (aB (packetB p))):=by
 have h1:=q06Site_spec p.frm
 have h2:=q06Site_spec p.to_
 rw [packet_site]
 refine spec_of T_ok Tryz.func69 (by dsimp only [Tryz.f69]) rfl rfl (by simp) fun w F=>?_
 cases a1:siteB p.frm<;>cases a2:siteB p.to_<;>rw [a1] at h1<;>rw [a2] at h2
 all_goals (cases a3:(p.frm != p.to_))
 ·repeat' (first |(with_reducible refine aw_seq ?_)|((first |((with_reducible refine aw_regionA T_ok ?_ ?_);kernel_rfl)|((with_reducible refine callI_spec (h1) (by with_unfolding_all rfl) ?_ ?_ ?_);kernel_rfl;kernel_rfl)|((with_reducible refine callK_intro (h2) (by with_unfolding_all rfl) ?_ ?_);kernel_rfl)|(with_reducible refine aw_ret ?_) );simp only [↓avP,avQ,avR,forall_const,implies_true,Nat.reduceEqDiff,Nat.reduceAdd,reduceCtorEq,avS,pkD_B,ty_3,ty_52,ty_50,a3]))
  all_goals exact Sub.refl _
 ·repeat' (first |(with_reducible refine aw_seq ?_)|((first |((with_reducible refine aw_regionA T_ok ?_ ?_);kernel_rfl)|((with_reducible refine callI_spec (h1) (by with_unfolding_all rfl) ?_ ?_ ?_);kernel_rfl;kernel_rfl)|((with_reducible refine callK_intro (h2) (by with_unfolding_all rfl) ?_ ?_);kernel_rfl)|(with_reducible refine aw_ret ?_) );simp only [↓avP,avQ,avR,forall_const,implies_true,Nat.reduceEqDiff,Nat.reduceAdd,reduceCtorEq,avS,pkD_B,ty_3,ty_52,ty_50,a3]))
  all_goals exact Sub.refl _
 ·repeat' (first |(with_reducible refine aw_seq ?_)|((first |((with_reducible refine aw_regionA T_ok ?_ ?_);kernel_rfl)|((with_reducible refine callI_spec (h1) (by with_unfolding_all rfl) ?_ ?_ ?_);kernel_rfl;kernel_rfl)|((with_reducible refine callK_intro (h2) (by with_unfolding_all rfl) ?_ ?_);kernel_rfl)|(with_reducible refine aw_ret ?_) );simp only [↓avP,avQ,avR,forall_const,implies_true,Nat.reduceEqDiff,Nat.reduceAdd,reduceCtorEq,avS,pkD_B,ty_3,ty_52,ty_50,a3]))
  all_goals exact Sub.refl _
 ·repeat' (first |(with_reducible refine aw_seq ?_)|((first |((with_reducible refine aw_regionA T_ok ?_ ?_);kernel_rfl)|((with_reducible refine callI_spec (h1) (by with_unfolding_all rfl) ?_ ?_ ?_);kernel_rfl;kernel_rfl)|((with_reducible refine callK_intro (h2) (by with_unfolding_all rfl) ?_ ?_);kernel_rfl)|(with_reducible refine aw_ret ?_) );simp only [↓avP,avQ,avR,forall_const,implies_true,Nat.reduceEqDiff,Nat.reduceAdd,reduceCtorEq,avS,pkD_B,ty_3,ty_52,ty_50,a3]))
  all_goals exact Sub.refl _
 ·repeat' (first |(with_reducible refine aw_seq ?_)|((first |((with_reducible refine aw_regionA T_ok ?_ ?_);kernel_rfl)|((with_reducible refine callI_spec (h1) (by with_unfolding_all rfl) ?_ ?_ ?_);kernel_rfl;kernel_rfl)|((with_reducible refine callK_intro (h2) (by with_unfolding_all rfl) ?_ ?_);kernel_rfl)|(with_reducible refine aw_ret ?_) );simp only [↓avP,avQ,avR,forall_const,implies_true,Nat.reduceEqDiff,Nat.reduceAdd,reduceCtorEq,avS,pkD_B,ty_3,ty_52,ty_50,a3]))
  all_goals exact Sub.refl _
 ·repeat' (first |(with_reducible refine aw_seq ?_)|((first |((with_reducible refine aw_regionA T_ok ?_ ?_);kernel_rfl)|((with_reducible refine callI_spec (h1) (by with_unfolding_all rfl) ?_ ?_ ?_);kernel_rfl;kernel_rfl)|((with_reducible refine callK_intro (h2) (by with_unfolding_all rfl) ?_ ?_);kernel_rfl)|(with_reducible refine aw_ret ?_) );simp only [↓avP,avQ,avR,forall_const,implies_true,Nat.reduceEqDiff,Nat.reduceAdd,reduceCtorEq,avS,pkD_B,ty_3,ty_52,ty_50,a3]))
  all_goals exact Sub.refl _
 ·repeat' (first |(with_reducible refine aw_seq ?_)|((first |((with_reducible refine aw_regionA T_ok ?_ ?_);kernel_rfl)|((with_reducible refine callI_spec (h1) (by with_unfolding_all rfl) ?_ ?_ ?_);kernel_rfl;kernel_rfl)|((with_reducible refine callK_intro (h2) (by with_unfolding_all rfl) ?_ ?_);kernel_rfl)|(with_reducible refine aw_ret ?_) );simp only [↓avP,avQ,avR,forall_const,implies_true,Nat.reduceEqDiff,Nat.reduceAdd,reduceCtorEq,avS,pkD_B,ty_3,ty_52,ty_50,a3]))
  all_goals exact Sub.refl _
 ·repeat' (first |(with_reducible refine aw_seq ?_)|((first |((with_reducible refine aw_regionA T_ok ?_ ?_);kernel_rfl)|((with_reducible refine callI_spec (h1) (by with_unfolding_all rfl) ?_ ?_ ?_);kernel_rfl;kernel_rfl)|((with_reducible refine callK_intro (h2) (by with_unfolding_all rfl) ?_ ?_);kernel_rfl)|(with_reducible refine aw_ret ?_) );simp only [↓avP,avQ,avR,forall_const,implies_true,Nat.reduceEqDiff,Nat.reduceAdd,reduceCtorEq,avS,pkD_B,ty_3,ty_52,ty_50,a3]))
  all_goals exact Sub.refl _
theorem link_site2 (p:Pr):linkB p=(siteB p.1&&siteB p.2&&decide (p.1 < p.2)):=by
 unfold linkB siteB
 rw [Bool.eq_iff_iff]
 simp only [Bool.and_eq_true,decide_eq_true_eq]
 omega
theorem cmp_site (q p:Pr):decide (cmpPr q p < 0)= !(decide (p.1 < q.1)||((p.1==q.1)&&decide (p.2≤q.2))):=by
 unfold cmpPr cmpI
 rw [Bool.eq_iff_iff]
 simp only [decide_eq_true_eq,Bool.not_eq_true',Bool.or_eq_false_iff,decide_eq_false_iff_not,Bool.and_eq_false_iff,beq_eq_false_iff_ne,ne_eq]
 split<;>(repeat' split)<;>omega
theorem q06Check_spec (n:NetP) (hn:okNet n):Spec Tryz.prog 34 [.agg (netD n)] (.r1 (aI (netChk n))):=by
 obtain ⟨hq,ha⟩:=hn
 refine spec_of T_ok Tryz.func34 (by dsimp only [Tryz.f34]) rfl rfl (by simp) fun w F=>?_
 by_cases hb:n.queue.length > 4096
 ·have hd:decide ((n.queue.length:Int) > 4096)=true:=decide_eq_true (by omega)
  repeat' (first |(with_reducible first |refine aw_seq ?_|refine two_t ?_|refine two_f ?_|refine aw_block ?_)|((first |((with_reducible refine aw_regionA T_ok ?_ ?_);kernel_rfl)|(with_reducible refine aw_skip ?_)|((with_reducible refine aw_condM ?_ ?_);kernel_rfl)|(with_reducible refine aw_ret ?_) );simp only [↓avP,avQ,avR,forall_const,implies_true,Nat.reduceEqDiff,reduceCtorEq,avS,netD_B,ty_23,ty_26,hd]))
  exact Sub.of_eq (congrArg aI (by unfold netChk;rw [if_pos (.inl hb)]))
 have hd:decide ((n.queue.length:Int) > 4096)=false:=decide_eq_false (by omega)
 repeat' (first |(with_reducible first |refine aw_seq ?_|refine two_t ?_|refine two_f ?_|refine aw_block ?_)|((first |((with_reducible refine aw_regionA T_ok ?_ ?_);kernel_rfl)|(with_reducible refine aw_skip ?_)|((with_reducible refine aw_condM ?_ ?_);kernel_rfl)|(with_reducible refine aw_ret ?_) );simp only [↓avP,avQ,avR,forall_const,implies_true,Nat.reduceEqDiff,reduceCtorEq,avS,netD_B,ty_23,ty_26,hd]))
 refine aw_loopI (fun k:Nat=>⟨[(1,.ptr 0 0),(2,vI 0),(3,vI k)],[(0,.cells 26 (dV (netD n)))],1⟩) (fun k=>k≤n.queue.length∧∀ i,i < k→packetB (n.queue.getD i default)=true) (fun k=>n.queue.length - k) 0 ⟨Nat.zero_le _,fun i hi=>absurd hi (Nat.not_lt_zero i)⟩ (wk_of [(0,some 0)] rfl rfl ?_ ?_) ?_
 ·simp only [wkA,reduceIte,Nat.reduceEqDiff]
  (repeat' (first |rfl|exact subVs_d _ _))
 ·simp only [wkA,reduceIte,Nat.reduceEqDiff]
  (repeat' (first |rfl|exact subVs_d _ _))
 rintro k ⟨hk,h0⟩
 rcases Nat.lt_or_ge k n.queue.length with hlt|hge
 ·have hd2:=ltd hlt
  have hp:=q06Packet_spec (n.queue.getD k default)
  cases hv:packetB (n.queue.getD k default) with
  |false=>
    rw [hv] at hp
    repeat' (first |(with_reducible first |refine aw_seq ?_|refine two_t ?_|refine two_f ?_)|((with_reducible refine And.intro ?_ ?_);(focus (omega)))|(with_reducible refine aw_block ?_)|((first |((with_reducible refine aw_regionA T_ok ?_ ?_);kernel_rfl)|((with_reducible refine callI_spec (hp) (by with_unfolding_all rfl) ?_ ?_ ?_);kernel_rfl;kernel_rfl)|(with_reducible refine aw_skip ?_)|((with_reducible refine aw_condM ?_ ?_);kernel_rfl)|(with_reducible refine aw_ret ?_) );simp only [↓avP,avQ,avR,forall_const,implies_true,Nat.reduceEqDiff,Nat.reduceLeDiff,reduceCtorEq,netD_B,pkD_B,ty_52,ty_23,ty_26,hd2];try simp (disch:=omega) only [avW]))
    exact Sub.of_eq (congrArg aI (by unfold netChk;rw [if_pos (.inr (List.any_eq_true.2 ⟨_,mem_getD hlt,by rw [hv];rfl⟩))]))
  |true=>
    rw [hv] at hp
    repeat' (first |(with_reducible first |refine aw_seq ?_|refine two_t ?_|refine two_f ?_)|((with_reducible refine And.intro ?_ ?_);(focus (omega)))|(with_reducible refine aw_block ?_)|((first |((with_reducible refine aw_regionA T_ok ?_ ?_);kernel_rfl)|((with_reducible refine callI_spec (hp) (by with_unfolding_all rfl) ?_ ?_ ?_);kernel_rfl;kernel_rfl)|(with_reducible refine aw_skip ?_)|((with_reducible refine aw_condM ?_ ?_);kernel_rfl)|(with_reducible refine aw_ret ?_) );simp only [↓avP,avQ,avR,forall_const,implies_true,Nat.reduceEqDiff,Nat.reduceLeDiff,reduceCtorEq,netD_B,pkD_B,ty_52,ty_23,ty_26,hd2];try simp (disch:=omega) only [avW]))
    refine ⟨k+1,⟨by omega,fun i hi=>?_⟩,by dsimp only;omega,wk_of [(0,some 0)] rfl rfl ?_ ?_⟩
    ·rcases Nat.lt_succ_iff_lt_or_eq.1 hi with h'|rfl
     ·exact h0 i h'
     ·exact hv
    ·simp only [wkA,reduceIte,Nat.reduceEqDiff]
     (repeat' (first |rfl|exact subVs_d _ _))
    ·simp only [wkA,reduceIte,Nat.reduceEqDiff]
     (repeat' (first |rfl|exact subVs_d _ _))
 obtain rfl:k=n.queue.length:=by omega
 have hd2:=ged (Nat.le_refl n.queue.length)
 have hn:¬ (n.queue.length > 4096∨n.queue.any (fun p=> !packetB p)=true):=by
  rintro (h|h)
  ·exact hb h
  ·obtain ⟨p,hp,hv⟩:=List.any_eq_true.1 h
   obtain ⟨i,hi,rfl⟩:=List.getElem_of_mem hp
   have:=h0 i hi
   rw [List.getD_eq_getElem?_getD,List.getElem?_eq_getElem hi,Option.getD_some] at this
   rw [this] at hv
   cases hv
 repeat' (first |(with_reducible first |refine aw_seq ?_|refine two_f ?_|refine aw_block ?_)|((first |((with_reducible refine aw_regionA T_ok ?_ ?_);kernel_rfl)|(with_reducible refine aw_exit ?_)|((with_reducible refine aw_condM ?_ ?_);kernel_rfl)|(with_reducible refine aw_ret ?_) );simp only [↓avP,avQ,avR,forall_const,implies_true,Nat.reduceEqDiff,reduceCtorEq,avS,netD_B,ty_23,ty_24,ty_26,hd2]))
 refine aw_loopI (fun k:Nat=>⟨[(1,.ptr 0 0),(2,vI 0),(4,vI k)],[(0,.cells 26 (dV (netD n)))],1⟩) (fun k=>k≤n.apart.length∧∀ i,i < k→apartAt n.apart i=true) (fun k=>n.apart.length - k) 0 ⟨Nat.zero_le _,fun i hi=>absurd hi (Nat.not_lt_zero i)⟩ (wk_of [(0,some 0)] rfl rfl ?_ ?_) ?_
 ·simp only [wkA,reduceIte,Nat.reduceEqDiff]
  (repeat' (first |rfl|exact subVs_d _ _))
 ·simp only [wkA,reduceIte,Nat.reduceEqDiff]
  (repeat' (first |rfl|exact subVs_d _ _))
 rintro k ⟨hk,h1⟩
 rcases Nat.lt_or_ge k n.apart.length with hlt|hge
 ·have hd2:=ltd hlt
  have ht1:((k:Int) - 1).toNat=k - 1:=by omega
  have hbad:apartAt n.apart k=false→netChk n=60:=fun h=>by
   unfold netChk
   rw [if_neg hn,if_neg]
   unfold apartB
   rw [Bool.not_eq_true,List.all_eq_false]
   exact ⟨k,by simpa using hlt,by rw [h];simp⟩
  have hs1:=q06Site_spec (n.apart.getD k default).1
  have hs2:=q06Site_spec (n.apart.getD k default).2
  have hli:=link_site2 (n.apart.getD k default)
  have hbad2:linkB (n.apart.getD k default)=false→netChk n=60:=fun h=>hbad (by unfold apartAt;rw [h];rfl)
  cases a1:siteB (n.apart.getD k default).1 with
  |false=>
    rw [a1] at hs1 hli
    repeat' (first |(with_reducible first |refine aw_seq ?_|refine two_t ?_)|((with_reducible refine And.intro ?_ ?_);(focus (first |omega|rfl)))|(with_reducible refine aw_block ?_)|((first |((with_reducible refine aw_regionA T_ok ?_ ?_);kernel_rfl)|((with_reducible refine callI_spec (hs1) (by with_unfolding_all rfl) ?_ ?_ ?_);kernel_rfl;kernel_rfl)|((with_reducible refine callK_intro (hs2) (by with_unfolding_all rfl) ?_ ?_);kernel_rfl)|(with_reducible refine aw_skip ?_)|((with_reducible refine aw_condM ?_ ?_);kernel_rfl)|(with_reducible refine aw_ret ?_) );simp only [↓avP,avQ,avR,forall_const,implies_true,Nat.reduceEqDiff,Nat.reduceAdd,Int.reduceToNat,Nat.reduceLeDiff,reduceCtorEq,netD_B,prD_B,ty_3,ty_101,ty_24,ty_26,hd2]))
    exact Sub.of_eq (congrArg aI (hbad2 hli).symm)
  |true=>
  rw [a1] at hs1 hli
  cases a2:siteB (n.apart.getD k default).2 with
  |false=>
    rw [a2] at hs2 hli
    repeat' (first |(with_reducible first |refine aw_seq ?_|refine two_t ?_)|((with_reducible refine And.intro ?_ ?_);(focus (first |omega|rfl)))|(with_reducible refine aw_block ?_)|((first |((with_reducible refine aw_regionA T_ok ?_ ?_);kernel_rfl)|((with_reducible refine callI_spec (hs1) (by with_unfolding_all rfl) ?_ ?_ ?_);kernel_rfl;kernel_rfl)|((with_reducible refine callK_intro (hs2) (by with_unfolding_all rfl) ?_ ?_);kernel_rfl)|(with_reducible refine aw_skip ?_)|((with_reducible refine aw_condM ?_ ?_);kernel_rfl)|(with_reducible refine aw_ret ?_) );simp only [↓avP,avQ,avR,forall_const,implies_true,Nat.reduceEqDiff,Nat.reduceAdd,Int.reduceToNat,Nat.reduceLeDiff,reduceCtorEq,netD_B,prD_B,ty_3,ty_101,ty_24,ty_26,hd2]))
    exact Sub.of_eq (congrArg aI (hbad2 (by rw [hli];rfl)).symm)
  |true=>
  rw [a2] at hs2 hli
  cases a3:decide ((n.apart.getD k default).1≥(n.apart.getD k default).2) with
  |true=>
    repeat' (first |(with_reducible first |refine aw_seq ?_|refine two_t ?_)|((with_reducible refine And.intro ?_ ?_);(focus (first |omega|rfl)))|(with_reducible refine aw_block ?_)|((first |((with_reducible refine aw_regionA T_ok ?_ ?_);kernel_rfl)|((with_reducible refine callI_spec (hs1) (by with_unfolding_all rfl) ?_ ?_ ?_);kernel_rfl;kernel_rfl)|((with_reducible refine callK_intro (hs2) (by with_unfolding_all rfl) ?_ ?_);kernel_rfl)|(with_reducible refine aw_skip ?_)|((with_reducible refine aw_condM ?_ ?_);kernel_rfl)|(with_reducible refine aw_ret ?_) );simp only [↓avP,avQ,avR,forall_const,implies_true,Nat.reduceEqDiff,Nat.reduceAdd,Int.reduceToNat,Nat.reduceLeDiff,reduceCtorEq,netD_B,prD_B,ty_3,ty_101,ty_24,ty_26,hd2,a3]))
    exact Sub.of_eq (congrArg aI (hbad2 (by rw [hli,decide_eq_false (by have:=of_decide_eq_true a3;omega)];rfl)).symm)
  |false=>
  have hl:linkB (n.apart.getD k default)=true:=by rw [hli,decide_eq_true (by have:=of_decide_eq_false a3;omega)];rfl
  have hnext:(decide (k=0)||decide (cmpPr (n.apart.getD (k - 1) default) (n.apart.getD k default) < 0))=true→∀ i,i < k+1→apartAt n.apart i=true:=fun h i hi=>by
   rcases Nat.lt_succ_iff_lt_or_eq.1 hi with h'|rfl
   ·exact h1 i h'
   ·unfold apartAt;rw [hl,h];rfl
  by_cases hk0:k=0
  ·have hz:decide ((k:Int) > 0)=false:=decide_eq_false (by omega)
   repeat' (first |(with_reducible first |refine aw_seq ?_|refine two_t ?_|refine two_f ?_)|((with_reducible refine And.intro ?_ ?_);(focus (first |omega|rfl|grind)))|(with_reducible refine aw_block ?_)|((first |((with_reducible refine aw_regionA T_ok ?_ ?_);kernel_rfl)|((with_reducible refine aw_drawnA T_ok ?_ ?_ ?_ ?_);kernel_rfl;kernel_rfl;(focus (decide+kernel)))|((with_reducible refine callI_spec (hs1) (by with_unfolding_all rfl) ?_ ?_ ?_);kernel_rfl;kernel_rfl)|((with_reducible refine callK_intro (hs2) (by with_unfolding_all rfl) ?_ ?_);kernel_rfl)|(with_reducible refine aw_skip ?_)|((with_reducible refine aw_condM ?_ ?_);kernel_rfl) );simp only [↓avP,avQ,avR,forall_const,implies_true,Nat.reduceEqDiff,Nat.reduceAdd,Int.reduceToNat,Nat.reduceLeDiff,reduceCtorEq,netD_B,prD_B,ty_3,ty_101,ty_24,ty_26,hd2,a3,hz];try simp (disch:=omega) only [av_w,av_t1]))
   refine ⟨k+1,⟨by omega,hnext (by rw [decide_eq_true hk0];rfl)⟩,by dsimp only;omega,wk_of [(0,some 0)] rfl rfl ?_ ?_⟩
   ·simp only [wkA,reduceIte,Nat.reduceEqDiff]
    (repeat' (first |rfl|exact subVs_d _ _))
   ·simp only [wkA,reduceIte,Nat.reduceEqDiff]
    (repeat' (first |rfl|exact subVs_d _ _))
  have hz:decide ((k:Int) > 0)=true:=decide_eq_true (by omega)
  have hcs:=cmp_site (n.apart.getD (k - 1) default) (n.apart.getD k default)
  have hw1:IntKind.i64.wrap ((k:Int) - 1)=(k:Int) - 1:=by rw [IntKind.wrap_i64];omega
  have hbad3:decide (cmpPr (n.apart.getD (k - 1) default) (n.apart.getD k default) < 0)=false→netChk n=60:=fun h=>hbad (by unfold apartAt;rw [hl,h,decide_eq_false hk0];rfl)
  have hok:decide (cmpPr (n.apart.getD (k - 1) default) (n.apart.getD k default) < 0)=true→∀ i,i < k+1→apartAt n.apart i=true:=fun h=>hnext (by rw [h,Bool.or_true])
  cases b1:decide ((n.apart.getD k default).1 < (n.apart.getD (k - 1) default).1) with
  |true=>
    rw [b1] at hcs
    repeat' (first |(with_reducible first |refine aw_seq ?_|refine two_t ?_|refine two_f ?_)|((with_reducible refine And.intro ?_ ?_);(focus (first |omega|rfl|grind)))|(with_reducible refine aw_block ?_)|((first |((with_reducible refine aw_regionA T_ok ?_ ?_);kernel_rfl)|((with_reducible refine aw_drawnA T_ok ?_ ?_ ?_ ?_);kernel_rfl;kernel_rfl;(focus (decide+kernel)))|((with_reducible refine callI_spec (hs1) (by with_unfolding_all rfl) ?_ ?_ ?_);kernel_rfl;kernel_rfl)|((with_reducible refine callK_intro (hs2) (by with_unfolding_all rfl) ?_ ?_);kernel_rfl)|(with_reducible refine aw_skip ?_)|((with_reducible refine aw_condM ?_ ?_);kernel_rfl)|(with_reducible refine aw_ret ?_) );simp only [↓avP,avQ,avR,forall_const,implies_true,Nat.reduceEqDiff,Nat.reduceAdd,Int.reduceToNat,Nat.reduceLeDiff,reduceCtorEq,netD_B,prD_B,ty_3,ty_101,ty_24,ty_26,hd2,a3,hz,hw1,ht1,b1]))
    exact Sub.of_eq (congrArg aI (hbad3 hcs).symm)
  |false=>
  rw [b1] at hcs
  cases b2:((n.apart.getD k default).1==(n.apart.getD (k - 1) default).1) with
  |false=>
    rw [b2] at hcs
    repeat' (first |(with_reducible first |refine aw_seq ?_|refine two_t ?_|refine two_f ?_)|((with_reducible refine And.intro ?_ ?_);(focus (first |omega|rfl)))|(with_reducible refine aw_block ?_)|((first |((with_reducible refine aw_regionA T_ok ?_ ?_);kernel_rfl)|((with_reducible refine aw_drawnA T_ok ?_ ?_ ?_ ?_);kernel_rfl;kernel_rfl;(focus (decide+kernel)))|((with_reducible refine callI_spec (hs1) (by with_unfolding_all rfl) ?_ ?_ ?_);kernel_rfl;kernel_rfl)|((with_reducible refine callK_intro (hs2) (by with_unfolding_all rfl) ?_ ?_);kernel_rfl)|(with_reducible refine aw_skip ?_)|((with_reducible refine aw_condM ?_ ?_);kernel_rfl) );simp only [↓avP,avQ,avR,forall_const,implies_true,Nat.reduceEqDiff,Nat.reduceAdd,Int.reduceToNat,Nat.reduceLeDiff,reduceCtorEq,netD_B,prD_B,ty_3,ty_101,ty_24,ty_26,hd2,a3,hz,hw1,ht1,b1,b2];try simp (disch:=omega) only [av_w]))
    refine ⟨k+1,⟨by omega,hok hcs⟩,by dsimp only;omega,wk_of [(0,some 0)] rfl rfl ?_ ?_⟩
    ·simp only [wkA,reduceIte,Nat.reduceEqDiff]
     (repeat' (first |rfl|exact subVs_d _ _))
    ·simp only [wkA,reduceIte,Nat.reduceEqDiff]
     (repeat' (first |rfl|exact subVs_d _ _))
  |true=>
  rw [b2] at hcs
  cases b3:decide ((n.apart.getD k default).2≤(n.apart.getD (k - 1) default).2) with
  |true=>
    rw [b3] at hcs
    repeat' (first |(with_reducible first |refine aw_seq ?_|refine two_t ?_|refine two_f ?_)|((with_reducible refine And.intro ?_ ?_);(focus (first |omega|rfl)))|(with_reducible refine aw_block ?_)|((first |((with_reducible refine aw_regionA T_ok ?_ ?_);kernel_rfl)|((with_reducible refine aw_drawnA T_ok ?_ ?_ ?_ ?_);kernel_rfl;kernel_rfl;(focus (decide+kernel)))|((with_reducible refine callI_spec (hs1) (by with_unfolding_all rfl) ?_ ?_ ?_);kernel_rfl;kernel_rfl)|((with_reducible refine callK_intro (hs2) (by with_unfolding_all rfl) ?_ ?_);kernel_rfl)|(with_reducible refine aw_skip ?_)|((with_reducible refine aw_condM ?_ ?_);kernel_rfl)|(with_reducible refine aw_ret ?_) );simp only [↓avP,avQ,avR,forall_const,implies_true,Nat.reduceEqDiff,Nat.reduceAdd,Int.reduceToNat,Nat.reduceLeDiff,reduceCtorEq,netD_B,prD_B,ty_3,ty_101,ty_24,ty_26,hd2,a3,hz,hw1,ht1,b1,b2,b3];try simp (disch:=omega) only [avW]))
    exact Sub.of_eq (congrArg aI (hbad3 hcs).symm)
  |false=>
    rw [b3] at hcs
    repeat' (first |(with_reducible first |refine aw_seq ?_|refine two_t ?_|refine two_f ?_)|((with_reducible refine And.intro ?_ ?_);(focus (first |omega|rfl)))|(with_reducible refine aw_block ?_)|((first |((with_reducible refine aw_regionA T_ok ?_ ?_);kernel_rfl)|((with_reducible refine aw_drawnA T_ok ?_ ?_ ?_ ?_);kernel_rfl;kernel_rfl;(focus (decide+kernel)))|((with_reducible refine callI_spec (hs1) (by with_unfolding_all rfl) ?_ ?_ ?_);kernel_rfl;kernel_rfl)|((with_reducible refine callK_intro (hs2) (by with_unfolding_all rfl) ?_ ?_);kernel_rfl)|(with_reducible refine aw_skip ?_)|((with_reducible refine aw_condM ?_ ?_);kernel_rfl)|(with_reducible refine aw_ret ?_) );simp only [↓avP,avQ,avR,forall_const,implies_true,Nat.reduceEqDiff,Nat.reduceAdd,Int.reduceToNat,Nat.reduceLeDiff,reduceCtorEq,netD_B,prD_B,ty_3,ty_101,ty_24,ty_26,hd2,a3,hz,hw1,ht1,b1,b2,b3];try simp (disch:=omega) only [avW]))
    refine ⟨k+1,⟨by omega,hok hcs⟩,by dsimp only;omega,wk_of [(0,some 0)] rfl rfl ?_ ?_⟩
    ·simp only [wkA,reduceIte,Nat.reduceEqDiff]
     (repeat' (first |rfl|exact subVs_d _ _))
    ·simp only [wkA,reduceIte,Nat.reduceEqDiff]
     (repeat' (first |rfl|exact subVs_d _ _))
 ·obtain rfl:k=n.apart.length:=by omega
  have hd2:=ged (Nat.le_refl n.apart.length)
  repeat' (first |(with_reducible first |refine aw_seq ?_|refine two_f ?_|refine aw_block ?_)|((first |((with_reducible refine aw_regionA T_ok ?_ ?_);kernel_rfl)|(with_reducible refine aw_exit ?_)|((with_reducible refine aw_condM ?_ ?_);kernel_rfl)|(with_reducible refine aw_ret ?_) );simp only [↓avP,avQ,avR,forall_const,implies_true,Nat.reduceEqDiff,reduceCtorEq,avS,netD_B,ty_23,ty_24,ty_26,hd2]))
  exact Sub.of_eq (congrArg aI (by
   unfold netChk
   rw [if_neg hn,if_pos]
   unfold apartB
   rw [List.all_eq_true]
   exact fun i hi=>h1 i (by simpa using hi)))

theorem eqT_i64:EqT Tryz.prog 3 [.i64] 1:= .inl ⟨_,Tryz.underlying3,rfl,Nat.le_refl _⟩
theorem eqT_Run:EqT Tryz.prog 30 [.i64,.i64,.i64] 2:=eqT_struct (kss:=[[.i64],[.i64],[.i64]]) (by kernel_rfl) (by kernel_rfl) (by kernel_rfl) rfl (fieldsK_of (tab:=[(3,[.i64])]) (by simp only [List.mem_singleton,forall_eq];exact eqT_i64) _ _ _ (by decide+kernel))
theorem eqT_Sig:EqT Tryz.prog 34 [.i64,.i64] 2:=eqT_struct (kss:=[[.i64],[.i64]]) (by kernel_rfl) (by kernel_rfl) (by kernel_rfl) rfl (fieldsK_of (tab:=[(3,[.i64])]) (by simp only [List.mem_singleton,forall_eq];exact eqT_i64) _ _ _ (by decide+kernel))
theorem eqT_Dig:EqT Tryz.prog 32 (List.replicate 32 .u8) 2:=by
 cases hi:Tryz.prog.info? 5 with
 |none=>exact absurd hi (by decide+kernel)
 |some i=>exact eqT_arr (e:=5) (by kernel_rfl) Tryz.underlying5 hi (by kernel_rfl) (by kernel_rfl)
theorem eqT_Slot:EqT Tryz.prog 144 [.i64,.i64,.i64,.i64,.i64] 3:=eqT_struct (kss:=[[.i64,.i64,.i64],[.i64],[.i64]]) (by kernel_rfl) (by kernel_rfl) (by kernel_rfl) rfl (fieldsK_of (tab:=[(3,[.i64]),(30,[.i64,.i64,.i64])]) (by
 intro p hp
 simp only [List.mem_cons,List.not_mem_nil,or_false] at hp
 rcases hp with rfl|rfl
 ·exact eqT_i64.up (by omega)
 ·exact eqT_Run) _ _ _ (by decide+kernel))
theorem eqT_Hand:EqT Tryz.prog 36 handKs 3:=eqT_struct (kss:=[[.i64,.i64,.i64],[.i64],[.i64],[.i64],[.i64],List.replicate 32 .u8,[.i64],[.i64,.i64]]) (by kernel_rfl) (by kernel_rfl) (by kernel_rfl) rfl (fieldsK_of (tab:=[(3,[.i64]),(30,[.i64,.i64,.i64]),(34,[.i64,.i64]),(32,List.replicate 32 .u8)]) (by
 intro p hp
 simp only [List.mem_cons,List.not_mem_nil,or_false] at hp
 rcases hp with rfl|rfl|rfl|rfl
 ·exact eqT_i64.up (by omega)
 ·exact eqT_Run
 ·exact eqT_Sig
 ·exact eqT_Dig) _ _ _ (by decide+kernel))
theorem isAgg_of {t:TypeId} {fs:Array Field} (h:Tryz.prog.underlying t=some (.struct fs)) (w:World):(isAgg t).run Tryz.prog w= .ok true w:=by unfold Go.isAgg;rw [Sem.run_bind,run_underlying h w];rfl
theorem eqSlot:EqInts Tryz.prog 144 5:=eqI_of (eqK_of eqT_Slot (by omega) (isAgg_of Tryz.underlying144) (by kernel_rfl))
theorem eqHand:EqKInts Tryz.prog 36 handKs:=eqK_of eqT_Hand (by omega) (isAgg_of Tryz.underlying36) (by kernel_rfl)
def btw (n lo hi:Int):Bool:=decide (n≥lo)&&decide (n≤hi)
theorem hbetween_spec (n lo hi:Int):Spec Tryz.prog 114 [aI n,aI lo,aI hi] (.r1 (aB (btw n lo hi))):=by
 refine spec_of T_ok Tryz.func114 (by dsimp only [Tryz.f114]) rfl rfl (by simp) fun w F=>?_
 repeat' (first |(with_reducible refine aw_seq ?_)|((with_reducible refine And.intro ?_ ?_);(focus (rfl)))|((first |((with_reducible refine aw_regionA T_ok ?_ ?_);kernel_rfl)|(with_reducible refine aw_ret ?_) );simp only [↓avP,avQ,avR,forall_const,implies_true,Nat.reduceEqDiff,Nat.reduceAdd,Nat.reduceLeDiff,reduceCtorEq,avS,handS,ty_3,ty_36,ty_30,ty_144]))
 exact Sub.refl _
def formB (h:Hd):Bool:=(btw h.at_ 0 2097151&&btw h.arr 0 2097151&&btw h.time 0 2097151)&&(btw h.frm 0 23&&btw h.to_ (-1) 23&&h.frm != h.to_)&&btw h.line 0 63&&btw h.leg 0 8&&btw h.many 0 64
theorem hformed_spec (h:Hd):Spec Tryz.prog 99 [.agg (handD h)] (.r1 (aB (formB h))):=by
 refine spec_of T_ok Tryz.func99 (by dsimp only [Tryz.f99]) rfl rfl (by simp) fun w F=>?_
 repeat' (first |(with_reducible refine aw_seq ?_)|((first |((with_reducible refine aw_regionA T_ok ?_ ?_);kernel_rfl)|((with_reducible refine callK_intro (hbetween_spec _ _ _) (by repeat' (first |exact ta_n|refine ta_d ?_)) ?_ ?_);kernel_rfl)|((with_reducible refine callI_spec (hbetween_spec _ _ _) (by repeat' (first |exact ta_n|refine ta_d ?_)) ?_ ?_ ?_);kernel_rfl;kernel_rfl)|(with_reducible refine aw_ret ?_) );simp only [↓avP,avQ,avR,forall_const,implies_true,Nat.reduceEqDiff,Nat.reduceAdd,reduceCtorEq,avS,handS,ty_3,ty_36,ty_30]))
 all_goals exact Sub.of_eq (by simp [formB])
theorem hslot_spec (h:Hd):Spec Tryz.prog 100 [.agg (handD h)] (.r1 (.agg [cI h.line,cI h.at_,cI h.arr,cI h.leg,cI h.frm])):=by
 refine spec_of T_ok Tryz.func100 (by dsimp only [Tryz.f100]) rfl rfl (by simp) fun w F=>?_
 repeat' (first |(with_reducible refine aw_seq ?_)|((with_reducible refine And.intro ?_ ?_);(focus (rfl)))|((first |((with_reducible refine aw_regionA T_ok ?_ ?_);kernel_rfl)|(with_reducible refine aw_ret ?_) );simp only [↓avP,avQ,avR,forall_const,implies_true,Nat.reduceEqDiff,Nat.reduceAdd,Nat.reduceLeDiff,reduceCtorEq,avS,handS,ty_3,ty_36,ty_30,ty_144]))
 all_goals exact Sub.refl _
def clashB (a b:Hd):Bool:=formB a&&formB b&&([a.line,a.at_,a.arr,a.leg,a.frm]==[b.line,b.at_,b.arr,b.leg,b.frm])&& !(decide ({ a with se:=0,ss:=0 }={ b with se:=0,ss:=0 }))
theorem hClash_spec (a b:Hd):Spec Tryz.prog 76 [.agg (handD a),.agg (handD b)] (.r1 (aB (clashB a b))):=by
 refine spec_of T_ok Tryz.func76 (by dsimp only [Tryz.f76]) rfl rfl (by simp) fun w F=>?_
 cases ha:formB a with
 |false=>
   repeat' (first |(with_reducible first |refine aw_seq ?_|refine two_t ?_)|((with_reducible refine And.intro ?_ ?_);(focus (exact eqSlot)))|((first |((with_reducible refine aw_regionA T_ok ?_ ?_);kernel_rfl)|((with_reducible refine aw_drawnA T_ok ?_ ?_ ?_ ?_);kernel_rfl;kernel_rfl;(focus (decide+kernel)))|((with_reducible refine callK_intro (hformed_spec _) (by repeat' (first |exact ta_n|refine ta_a ?_)) ?_ ?_);kernel_rfl)|((with_reducible refine callK_intro (hslot_spec _) (by repeat' (first |exact ta_n|refine ta_a ?_)) ?_ ?_);kernel_rfl)|((with_reducible refine aw_condM ?_ ?_);kernel_rfl)|(with_reducible refine aw_ret ?_) );simp only [↓avP,avQ,avR,forall_const,implies_true,Nat.reduceEqDiff,Nat.reduceAdd,Nat.reduceLeDiff,reduceCtorEq,avS,handS,ty_36,ha]))
   all_goals exact Sub.of_eq (by simp [clashB,ha])
 |true=>
 cases hb:formB b with
 |false=>
   repeat' (first |(with_reducible first |refine aw_seq ?_|refine two_t ?_)|((with_reducible refine And.intro ?_ ?_);(focus (exact eqSlot)))|((first |((with_reducible refine aw_regionA T_ok ?_ ?_);kernel_rfl)|((with_reducible refine aw_drawnA T_ok ?_ ?_ ?_ ?_);kernel_rfl;kernel_rfl;(focus (decide+kernel)))|((with_reducible refine callK_intro (hformed_spec _) (by repeat' (first |exact ta_n|refine ta_a ?_)) ?_ ?_);kernel_rfl)|((with_reducible refine callK_intro (hslot_spec _) (by repeat' (first |exact ta_n|refine ta_a ?_)) ?_ ?_);kernel_rfl)|((with_reducible refine aw_condM ?_ ?_);kernel_rfl)|(with_reducible refine aw_ret ?_) );simp only [↓avP,avQ,avR,forall_const,implies_true,Nat.reduceEqDiff,Nat.reduceAdd,Nat.reduceLeDiff,reduceCtorEq,avS,handS,ty_36,ha,hb]))
   all_goals exact Sub.of_eq (by simp [clashB,ha,hb])
 |true=>
 cases hs:([a.line,a.at_,a.arr,a.leg,a.frm]==[b.line,b.at_,b.arr,b.leg,b.frm]) with
 |false=>
   repeat' (first |(with_reducible first |refine aw_seq ?_|refine two_t ?_|refine two_f ?_)|((with_reducible refine And.intro ?_ ?_);(focus (first |exact eqSlot|exact eqHand|rfl)))|((first |((with_reducible refine aw_regionA T_ok ?_ ?_);kernel_rfl)|((with_reducible refine aw_drawnA T_ok ?_ ?_ ?_ ?_);kernel_rfl;kernel_rfl;(focus (decide+kernel)))|((with_reducible refine callK_intro (hformed_spec _) (by repeat' (first |exact ta_n|refine ta_a ?_)) ?_ ?_);kernel_rfl)|((with_reducible refine callK_intro (hslot_spec _) (by repeat' (first |exact ta_n|refine ta_a ?_)) ?_ ?_);kernel_rfl)|(with_reducible refine aw_skip ?_)|((with_reducible refine aw_condM ?_ ?_);kernel_rfl)|(with_reducible refine aw_ret ?_) );simp only [↓avP,avQ,avR,forall_const,implies_true,Nat.reduceEqDiff,Nat.reduceAdd,Nat.reduceLeDiff,reduceCtorEq,avS,handS,↓hd_s40,ty_36,ty_34,ha,hb,hs]))
   all_goals exact Sub.of_eq (by simp only [clashB,ha,hb,hs,Bool.and_false,Bool.false_and])
 |true=>
   repeat' (first |(with_reducible first |refine aw_seq ?_|refine two_t ?_|refine two_f ?_)|((with_reducible refine And.intro ?_ ?_);(focus (first |exact eqSlot|exact eqHand|rfl)))|((first |((with_reducible refine aw_regionA T_ok ?_ ?_);kernel_rfl)|((with_reducible refine aw_drawnA T_ok ?_ ?_ ?_ ?_);kernel_rfl;kernel_rfl;(focus (decide+kernel)))|((with_reducible refine callK_intro (hformed_spec _) (by repeat' (first |exact ta_n|refine ta_a ?_)) ?_ ?_);kernel_rfl)|((with_reducible refine callK_intro (hslot_spec _) (by repeat' (first |exact ta_n|refine ta_a ?_)) ?_ ?_);kernel_rfl)|(with_reducible refine aw_skip ?_)|((with_reducible refine aw_condM ?_ ?_);kernel_rfl)|(with_reducible refine aw_ret ?_) );simp only [↓avP,avQ,avR,forall_const,implies_true,Nat.reduceEqDiff,Nat.reduceAdd,Nat.reduceLeDiff,reduceCtorEq,avS,handS,↓hd_s40,ty_36,ty_34,ha,hb,hs]))
   all_goals exact Sub.of_eq (by simp only [clashB,ha,hb,hs,Bool.true_and])
theorem clash_self (h:Hd) (m:Int) (hm:formB h=true→btw m 0 64=true∧h.many≠m):clashB h { h with many:=m }=formB h:=by
 unfold clashB
 cases hf:formB h with
 |false=>simp
 |true=>
   obtain ⟨h1,hne⟩:=hm hf
   have h2:formB { h with many:=m }=true:=by
    unfold formB at hf ⊢
    simp only [Bool.and_eq_true] at hf
    simp [hf,h1]
   have h3:decide ({ h with se:=0,ss:=0 }={ h with many:=m,se:=0,ss:=0 })=false:=decide_eq_false fun e=>hne (congrArg Hd.many e)
   simp only [h2,h3,Bool.true_and,beq_self_eq_true,Bool.not_false]
theorem form_many {h:Hd} (hf:formB h=true):0≤h.many∧h.many≤64:=by
 unfold formB btw at hf
 simp only [Bool.and_eq_true,decide_eq_true_eq] at hf
 omega
theorem gformed_spec (h:Hd) (hm: -9223372036854775808≤h.many∧h.many≤9223372036854775807):Spec Tryz.prog 45 [.agg (handD h)] (.r1 (aB (formB h))):=by
 refine spec_of T_ok Tryz.func45 (by dsimp only [Tryz.f45]) rfl rfl (by simp) fun w F=>?_
 cases hc:(h.many==64) with
 |true=>
   repeat' (first |(with_reducible first |refine aw_seq ?_|refine two_t ?_|refine two_f ?_)|((with_reducible refine And.intro ?_ ?_);(focus (rfl)))|((first |((with_reducible refine aw_regionA T_ok ?_ ?_);kernel_rfl)|((with_reducible refine callI_spec (hClash_spec _ _) (by repeat' (first |exact ta_n|refine ta_a ?_)) ?_ ?_ ?_);kernel_rfl;kernel_rfl)|(with_reducible refine aw_skip ?_)|((with_reducible refine aw_condM ?_ ?_);kernel_rfl)|(with_reducible refine aw_ret ?_) );simp only [↓avP,avQ,avR,forall_const,implies_true,Nat.reduceEqDiff,Nat.reduceAdd,Nat.reduceLeDiff,reduceCtorEq,avS,handS,↓hd_s6,ty_3,ty_36,hc]))
   have hc:=beq_iff_eq.1 hc
   all_goals exact Sub.of_eq (congrArg aB (clash_self h 0 fun _=>⟨rfl,by omega⟩))
 |false=>
   repeat' (first |(with_reducible first |refine aw_seq ?_|refine two_t ?_|refine two_f ?_)|((with_reducible refine And.intro ?_ ?_);(focus (rfl)))|((first |((with_reducible refine aw_regionA T_ok ?_ ?_);kernel_rfl)|((with_reducible refine callI_spec (hClash_spec _ _) (by repeat' (first |exact ta_n|refine ta_a ?_)) ?_ ?_ ?_);kernel_rfl;kernel_rfl)|(with_reducible refine aw_skip ?_)|((with_reducible refine aw_condM ?_ ?_);kernel_rfl)|(with_reducible refine aw_ret ?_) );simp only [↓avP,avQ,avR,forall_const,implies_true,Nat.reduceEqDiff,Nat.reduceAdd,Nat.reduceLeDiff,reduceCtorEq,avS,handS,↓hd_s6,ty_3,ty_36,hc]))
   have hc:=beq_eq_false_iff_ne.1 hc
   all_goals exact Sub.of_eq (congrArg aB (clash_self h _ fun hf=>by
    have:=form_many hf
    rw [av_w (by omega)]
    exact ⟨by unfold btw;simp;omega,by omega⟩))
end Go.Proofs.YthidfoohhhkobaaGreat

namespace Go.Proofs.YthidfoohhhkobaaGreat.Cd
set_option linter.unusedSimpArgs false
set_option linter.unusedVariables false
open Go.RowKit
section
variable {P:Program}
structure Grew (base:Nat) (e:TypeId) (size:Nat) (w:World) (v:Value) (v':Value) (n:Nat) (xs:List Value) (w':World):Prop where
 own:w'.ownsRow base e size v' n xs
 by_:w.grownBy w' v.ownBlock
 new:∀ g,v'.ownBlock=some g→w.heap.size≤g∨v.ownBlock=some g
theorem grownBy_refl (w:World) (row:Option Nat):w.grownBy w row:=⟨rfl,rfl,rfl,Nat.le_refl _,fun _ _ _=>rfl⟩
theorem Grew.refl {base:Nat} {e:TypeId} {size:Nat} {w:World} {v:Value} {n:Nat} {xs:List Value} (h:w.ownsRow base e size v n xs):Grew base e size w v v n xs w:=
 ⟨h,grownBy_refl _ _,fun _ h=> .inr h⟩
theorem Grew.trans {base:Nat} {e:TypeId} {size:Nat} {w w1 w2:World} {v v1 v2:Value} {n n2:Nat} {xs xs2:List Value}
  (h:Grew base e size w v v1 n xs w1) (h2:Grew base e size w1 v1 v2 n2 xs2 w2):Grew base e size w v v2 n2 xs2 w2:=
 ⟨h2.own,h.by_.andThen h2.by_ h.new,fun g hg=>by
  rcases h2.new g hg with h3|h3
  ·exact .inl (Nat.le_trans h.by_.size h3)
  ·exact h.new g h3⟩
theorem Grew.behind {base:Nat} {e:TypeId} {size:Nat} {w w0 w':World} {v v':Value} {n:Nat} {xs:List Value}
  (h:Grew base e size w0 v v' n xs w') (hb:Below w.heap.size w w0):Grew base e size w v v' n xs w':=
 ⟨h.own,(⟨hb.os,hb.tape,hb.output,hb.size,fun k hk _=>hb.block k hk⟩:w.grownBy w0 v.ownBlock).andThen h.by_ (fun j hj=> .inr hj),fun g hg=>by
  rcases h.new g hg with h3|h3
  ·exact .inl (Nat.le_trans hb.size h3)
  ·exact .inr h3⟩
theorem Grew.below {base:Nat} {e:TypeId} {size:Nat} {w w':World} {v v':Value} {n:Nat} {xs:List Value} {B:Nat}
  (h:Grew base e size w v v' n xs w') (hB:B≤w.heap.size) (hv:∀ g,v.ownBlock=some g→B≤g):Below B w w':=
 (Below.refl B w).grown h.by_ hB hv
theorem Grew.other {base:Nat} {e:TypeId} {size:Nat} {w w':World} {v v':Value} {n:Nat} {xs:List Value}
  (h:Grew base e size w v v' n xs w') {b:Nat} (hb:b < w.heap.size) (hne:v.ownBlock≠some b):w'.heap[b]? =w.heap[b]?:=h.by_.block b hb (fun e=>hne e.symm)
theorem Grew.cell {base:Nat} {e:TypeId} {size:Nat} {w w':World} {v v':Value} {n:Nat} {xs:List Value}
  (h:Grew base e size w v v' n xs w') {a:Addr} {u:Value} (hc:w.cell? a=some u) (hne:v.ownBlock≠some a.block):w'.cell? a=some u:=h.by_.cell hc (fun e=>hne e.symm)
theorem run_append_own2 (w:World) (base:Nat) (t ty e:TypeId) (i:TypeInfo) (z:Value) (size bytes:Nat) (ht:P.underlying t=some (.slice e)) (hi:P.info? e=some i) (hz:i.zero=some z)
  (hsize:i.size=size) (hby:i.bytes=bytes) (hzs:z.cells.size=size) (hsz:0 < size)
  (v:Value) (n:Nat) (xs:List Value) (hown:w.ownsRow base e size v n xs)
  (a:Addr) (m c:Nat) (news:List Value) (hl:news.length=m * size) (hnews:∀ j u,news[j]? =some u→w.cell? (a.add j)=some u) (h1:∀ u∈news,u.oneCell'=true)
  (h63:n+m≤maxLen) (hbytes:(n+m) * bytes≤140737488355328) (hbase:base≤w.heap.size):
  ∃ v' w',(Builtin.append_ #[t,t] ty #[v,.slice (some a) m c]).run P w= .ok v' w'∧Grew base e size w v v' (n+m) (xs++news) w':=by
 obtain ⟨v',w',hr,h2,h3,h4⟩:=run_append_own (P:=P) w base t ty e i z size bytes ht hi hz hsize hby hzs hsz v n xs hown a m c news hl hnews h1 h63 hbytes hbase
 refine ⟨v',w',hr,h2,h3,fun g hg=>?_⟩
 subst hsize
 subst hby
 have hsmall:n+m≤9223372036854775807:=by simp only [maxLen] at h63;omega
 rcases hown.2 with ⟨rfl,rfl⟩|⟨g0,cap,cur,rfl,hbg,hg0,hnc,hcm,hcs,htake⟩
 ·by_cases hm:m=0
  ·rw [h4.2 ⟨rfl,hm⟩] at hg;cases hg
  ·have hr2:=run_append_nil (P:=P) w t ty e i z ht hi hz a m c news hl hnews (by omega) (by omega) (by have hb:=hbytes;simp only [Nat.zero_add] at hb;omega)
   rw [hr2] at hr
   injection hr with e1 e2
   subst e1
   injection hg with hg;subst hg
   exact .inl (Nat.le_refl _)
 ·by_cases hroom:n+m≤cap
  ·have hfit:n * i.size+news.length≤cur.size:=by rw [hl,hcs,← Nat.add_mul];exact Nat.mul_le_mul_right _ hroom
   have hr2:=run_append_room (P:=P) w t ty e i ht hi g0 n cap cur hg0 a m c news hl hnews h1 hroom hfit
   rw [hr2] at hr
   injection hr with e1 e2
   subst e1
   exact .inr hg
  ·have hr2:=run_append_grow (P:=P) w t ty e i z ht hi hz ⟨g0,0,none⟩ n cap xs hown.1 (hown.cells (g:=g0) rfl) a m c news hl hnews (by omega) (by omega) (growslice_fits (by omega) hbytes)
   rw [hr2] at hr
   injection hr with e1 e2
   subst e1
   injection hg with hg;subst hg
   exact .inl (Nat.le_refl _)
def Source (P:Program) (t tx:TypeId) (size:Nat) (w:World) (x:Value) (m:Nat) (news:List Value):Prop:=
 (∃ ad c,x= .slice (some ad) m c∧tx=t∧news.length=m * size∧(∀ j u,news[j]? =some u→w.cell? (ad.add j)=some u)∧(∀ u∈news,u.oneCell'=true))∨
 (x= .slice none 0 0∧m=0∧news=[]∧tx=t)∨
 (∃ s,x= .string s∧m=s.size∧news=Lib.strCells s∧P.underlying tx=some .string∧size=1)
theorem Source.cells {t tx:TypeId} {size:Nat} {w:World} (ad:Addr) (m c:Nat) (news:List Value) (ht:tx=t) (hl:news.length=m * size) (hnews:∀ j u,news[j]? =some u→w.cell? (ad.add j)=some u) (h1:∀ u∈news,u.oneCell'=true):
  Source P t tx size w (.slice (some ad) m c) m news:= .inl ⟨ad,c,rfl,ht,hl,hnews,h1⟩
theorem Source.nil {t tx:TypeId} {size:Nat} {w:World} (ht:tx=t):Source P t tx size w (.slice none 0 0) 0 []:= .inr (.inl ⟨rfl,rfl,rfl,ht⟩)
theorem Source.text {t tx:TypeId} {size:Nat} {w:World} (s:ByteArray) (hu:P.underlying tx=some .string) (h1:size=1):Source P t tx size w (.string s) s.size (Lib.strCells s):= .inr (.inr ⟨s,rfl,rfl,rfl,hu,h1⟩)
theorem Source.own {t e:TypeId} {size:Nat} {w:World} {base:Nat} {v:Value} {n:Nat} {xs:List Value} (h:w.ownsRow base e size v n xs) (h1:∀ u∈xs,u.oneCell'=true):Source P t t size w v n xs:=by
 have hl:=h.1
 have hc:=fun (g:Nat) (hg:v.ownBlock=some g)=>h.cells hg
 rcases h.2 with ⟨rfl,rfl⟩|⟨g,cap,cur,rfl,_⟩
 ·have:xs=[]:=List.eq_nil_of_length_eq_zero (by simpa using hl)
  subst this
  exact Source.nil rfl
 ·exact Source.cells _ _ _ _ rfl hl (hc g rfl) h1
theorem Source.one {t e:TypeId} {w:World} (g:Nat) (u:Value) (hg:w.heap[g]? =some (.cells #[u] e (0,0))) (h1:u.oneCell'=true):Source P t t 1 w (.slice (some ⟨g,0,none⟩) 1 1) 1 [u]:=
 Source.cells _ _ _ _ rfl rfl (World.news_of_block (cs:= #[u]) (t:=e) (fr:=(0,0)) hg) (by simpa using h1)
theorem run_append_string2 (w:World) (base:Nat) (t u ty e:TypeId) (i:TypeInfo) (ht:P.underlying t=some (.slice e)) (hu:P.underlying u=some .string) (hi:P.info? e=some i) (hz:i.zero=some (.int .u8 0))
  (hsize:i.size=1) (hby:i.bytes=1) (v:Value) (n:Nat) (xs:List Value) (hown:w.ownsRow base e 1 v n xs) (s:ByteArray)
  (h63:n+s.size≤maxLen) (hbytes:n+s.size≤140737488355328) (hbase:base≤w.heap.size):
  ∃ v' w',(Builtin.append_ #[t,u] ty #[v,.string s]).run P w= .ok v' w'∧Grew base e 1 w v v' (n+s.size) (xs++Lib.strCells s) w':=by
 obtain ⟨v',w',hr,h2,h3,h4⟩:=Lib.run_append_own_string (P:=P) w base t u ty e i ht hu hi hz hsize hby v n xs hown s h63 hbytes hbase
 refine ⟨v',w',hr,h2,h3,fun g hg=>?_⟩
 have hsmall:n+s.size≤9223372036854775807:=by simp only [maxLen] at h63;omega
 have hxl:xs.length=n:=by simpa using hown.1
 rcases hown.2 with ⟨rfl,rfl⟩|⟨g0,cap,cur,rfl,hbg,hg0,hnc,hcm,hcs,htake⟩
 ·by_cases hm:s.size=0
  ·rw [h4.2 ⟨rfl,hm⟩] at hg;cases hg
  ·have hr2:=run_append_nil_string (P:=P) w t u ty e i (.int .u8 0) ht hu hi hz s (by omega) (by omega) (by rw [hby];omega)
   rw [hr2] at hr
   injection hr with e1 e2
   subst e1
   injection hg with hg;subst hg
   exact .inl (Nat.le_refl _)
 ·by_cases hroom:n+s.size≤cap
  ·have hcs':cur.size=cap:=by simpa using hcs
   have hr2:=Lib.run_append_room_string (P:=P) w t u ty e i ht hu hi hsize g0 n cap cur hg0 s hroom (by omega)
   rw [hr2] at hr
   injection hr with e1 e2
   subst e1
   exact .inr hg
  ·have hr2:=Lib.run_append_grow_string (P:=P) w t u ty e i (.int .u8 0) ht hu hi hz ⟨g0,0,none⟩ n cap xs (by rw [hsize];simpa using hxl) (hown.cells (g:=g0) rfl) s (by omega) (by omega) (by rw [hby];exact growslice_fits (by omega) (by omega))
   rw [hr2] at hr
   injection hr with e1 e2
   subst e1
   injection hg with hg;subst hg
   exact .inl (Nat.le_refl _)
structure Elem (P:Program) (t e:TypeId) (z:Value) (size bytes:Nat):Prop where
 ht:P.underlying t=some (.slice e)
 info:(P.info? e).map (fun i=>(i.zero,i.size,i.bytes))=some (some z,size,bytes)
 hzs:z.cells.size=size
 pos:0 < size
 byte:size=1→bytes=1→z= .int .u8 0
theorem run_append_any (w:World) (base:Nat) {t tx ty e:TypeId} {z:Value} {size bytes:Nat} (E:Elem P t e z size bytes) (v:Value) (n:Nat) (xs:List Value) (hown:w.ownsRow base e size v n xs)
  (x:Value) (m:Nat) (news:List Value) (hS:Source P t tx size w x m news) (hb1:tx=t∨bytes=1)
  (h63:n+m≤maxLen) (hbytes:(n+m) * bytes≤140737488355328) (hbase:base≤w.heap.size):
  ∃ v' w',(Builtin.append_ #[t,tx] ty #[v,x]).run P w= .ok v' w'∧Grew base e size w v v' (n+m) (xs++news) w':=by
 obtain ⟨i,hi,hz,hsz,hby⟩:=info_parts E.info
 rcases hS with ⟨ad,c,rfl,rfl,hl,hnews,h1⟩|⟨rfl,rfl,rfl,rfl⟩|⟨s,rfl,rfl,rfl,hu,h1⟩
 ·exact run_append_own2 w base _ ty e i z size bytes E.ht hi hz hsz hby E.hzs E.pos v n xs hown ad _ c _ hl hnews h1 h63 hbytes hbase
 ·refine ⟨v,w,run_append_owned_none (P:=P) (w:=w) base _ ty e i size E.ht hi v n xs hown,?_⟩
  simpa using Grew.refl hown
 ·rcases hb1 with h|h
  ·rw [h,E.ht] at hu;cases hu
  ·subst h1 h
   have:=E.byte rfl rfl
   subst this
   exact run_append_string2 w base t tx ty e i E.ht hu hi hz hsz hby v n xs hown s h63 (by omega) hbase
section
variable {w:World} {a:Act} {ops:Array Oper} {rest:List Oper} {o:Oper} {Q:Exit→Act→World→Prop}
theorem wpList_app (hgd:o.guard=none) (s x:Operand) {t tx e:TypeId} {z:Value} {size bytes:Nat}
  (ho:o.op= .call { callee:= .builtin .append,args:= #[s,x],argTypes:= #[t,tx] }) (E:Elem P t e z size bytes)
  (base:Nat) (v:Value) (n:Nat) (xs:List Value) (hs:a.eval s=v) (hown:w.ownsRow base e size v n xs) (xv:Value) (m:Nat) (news:List Value) (hx:a.eval x=xv) (hS:Source P t tx size w xv m news) (hb1:tx=t∨bytes=1)
  (h63:n+m≤maxLen) (hbytes:(n+m) * bytes≤140737488355328) (hbase:base≤w.heap.size)
  (h:∀ v' w',Grew base e size w v v' (n+m) (xs++news) w'→wpList P ops Q rest (a.put o.dst v') w'):wpList P ops Q (o :: rest) a w:=by
 refine wpList_plain hgd fun _ hK=>?_
 obtain ⟨v',w',hr,h2⟩:=run_append_any (P:=P) w base (ty:=o.type) E v n xs hown xv m news hS hb1 h63 hbytes hbase
 unfold Oper.wp execOp
 simp only [ho,resolve,invoke,builtin,Sem.run_bind,Sem.run_pure,Result.andThen_ok,List.map_toArray,List.map_cons,List.map_nil,hs,hx,hr]
 exact hK _ _ (h v' w' h2)
theorem step_app {K:Act→World→Prop} {E':Prop} (hgd:o.guard=none) (s x:Operand) {t tx e:TypeId} {z:Value} {size bytes:Nat}
  (ho:o.op= .call { callee:= .builtin .append,args:= #[s,x],argTypes:= #[t,tx] }) (E:Elem P t e z size bytes)
  (base:Nat) (v:Value) (n:Nat) (xs:List Value) (hs:a.eval s=v) (hown:w.ownsRow base e size v n xs) (xv:Value) (m:Nat) (news:List Value) (hx:a.eval x=xv) (hS:Source P t tx size w xv m news) (hb1:tx=t∨bytes=1)
  (h63:n+m≤maxLen) (hbytes:(n+m) * bytes≤140737488355328) (hbase:base≤w.heap.size)
  (h:∀ v' w',Grew base e size w v v' (n+m) (xs++news) w'→K (a.put o.dst v') w'):
  if Region.wanted o (yielded ops a.tmps)=true then Oper.wp P o a w K Q else E':=by
 have hw:Region.wanted o (yielded ops a.tmps)=true:=by simp [Region.wanted,hgd]
 rw [if_pos hw]
 obtain ⟨v',w',hr,h2⟩:=run_append_any (P:=P) w base (ty:=o.type) E v n xs hown xv m news hS hb1 h63 hbytes hbase
 unfold Oper.wp execOp
 simp only [ho,resolve,invoke,builtin,Sem.run_bind,Sem.run_pure,Result.andThen_ok,List.map_toArray,List.map_cons,List.map_nil,hs,hx,hr]
 exact h v' w' h2
end
theorem wpList_append_own2 {w:World} {ops:Array Oper} {rest:List Oper} {o:Oper} {a:Act} {Q:Exit→Act→World→Prop} (hgd:o.guard=none) (s x:Operand) (t:TypeId)
  (ho:o.op= .call { callee:= .builtin .append,args:= #[s,x],argTypes:= #[t,t] })
  (base:Nat) (e:TypeId) (i:TypeInfo) (z:Value) (size bytes:Nat) (ht:P.underlying t=some (.slice e)) (hi:P.info? e=some i) (hz:i.zero=some z)
  (hsize:i.size=size) (hby:i.bytes=bytes) (hzs:z.cells.size=size) (hsz:0 < size)
  (v:Value) (n:Nat) (xs:List Value) (hs:a.eval s=v) (hown:w.ownsRow base e size v n xs)
  (ad:Addr) (m c:Nat) (news:List Value) (hx:a.eval x= .slice (some ad) m c) (hl:news.length=m * size) (hnews:∀ j u,news[j]? =some u→w.cell? (ad.add j)=some u) (h1:∀ u∈news,u.oneCell'=true)
  (h63:n+m≤maxLen) (hbytes:(n+m) * bytes≤140737488355328) (hbase:base≤w.heap.size)
  (h:∀ v' w',Grew base e size w v v' (n+m) (xs++news) w'→wpList P ops Q rest (a.put o.dst v') w'):wpList P ops Q (o :: rest) a w:=by
 refine wpList_plain hgd fun _ hK=>?_
 obtain ⟨v',w',hr,h2⟩:=run_append_own2 (P:=P) w base t o.type e i z size bytes ht hi hz hsize hby hzs hsz v n xs hown ad m c news hl hnews h1 h63 hbytes hbase
 unfold Oper.wp execOp
 simp only [ho,resolve,invoke,builtin,Sem.run_bind,Sem.run_pure,Result.andThen_ok,List.map_toArray,List.map_cons,List.map_nil,hs,hx,hr]
 exact hK _ _ (h v' w' h2)
end
theorem le_alloc {b:Nat} {w:World} (h:b≤w.heap.size) (o:Obj):b≤(w.alloc o).heap.size:=by simp;omega
theorem one_int (k:IntKind) (n:Int):∀ u∈[Value.int k n],u.oneCell'=true:=by simp [Value.oneCell']
theorem maxLen_le {n:Nat} (h:n≤140737488355328):n≤maxLen:=by unfold maxLen;omega
end Go.Proofs.YthidfoohhhkobaaGreat.Cd
