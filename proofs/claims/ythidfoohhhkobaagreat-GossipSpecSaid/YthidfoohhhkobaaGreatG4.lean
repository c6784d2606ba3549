import Derived.Test.YthidfoohhhkobaaGreatG3
import Derived.Test.YthidfoohhhkobaaGreatG2
namespace Go.Proofs.YthidfoohhhkobaaGreat
set_option linter.unusedSimpArgs false
set_option linter.unusedVariables false
open Go.RowKit
structure NetP where
 queue:List Pk
 apart:List Pr
 deriving DecidableEq
def netD (x:NetP):List D:=[.sl 3 (pkD default) (x.queue.map pkD),.sl 2 (prD default) (x.apart.map prD)]
theorem netD_len (x:NetP):(dV (netD x)).length=2:=rfl
theorem netD_take (x:NetP):(dV (netD x)).take 2=dV (netD x):=rfl
theorem netD_ln (x:NetP):(netD x).length=2:=rfl
theorem netD_hd (x:NetP):(dV (netD x)).head? =some (.d (.sl 3 (pkD default) (x.queue.map pkD))):=rfl
theorem netD_ic (x:NetP):(dV (netD x)).length=2:=rfl
theorem netD_d1 (x:NetP):(dV (netD x)).drop 1=[.d (.sl 2 (prD default) (x.apart.map prD))]:=rfl
set_option linter.defProp false in
def netD_B:=And.intro @netD_len ( And.intro @netD_take ( And.intro @netD_hd ( And.intro @netD_ln ( And.intro @netD_ic (@netD_d1)))))
set_option maxRecDepth 100000
set_option maxHeartbeats 4000000
theorem prD_m (x:Pr):((prD x).take 2).map (fun d=>[d])=[[cI x.1],[cI x.2]]:=rfl
def mm (a b:Int):Pr:=(if b < a then b else a,if b > a then b else a)
theorem nbetween_spec (a b:Int):Spec Tryz.prog 84 [aI a,aI b] (.r1 (.agg (prD (mm a b)))):=by
 refine spec_of T_ok Tryz.func84 (by dsimp only [Tryz.f84]) rfl rfl (by simp) fun w F=>?_
 repeat' (first |(with_reducible refine aw_seq ?_)|((with_reducible refine And.intro ?_ ?_);(focus (first |omega|rfl)))|((first |((with_reducible refine aw_regionA T_ok ?_ ?_);kernel_rfl)|(with_reducible refine aw_ret ?_) );simp only [↓avP,avQ,avR,forall_const,implies_true,Nat.reduceEqDiff,Nat.reduceAdd,Int.reduceToNat,Nat.reduceLeDiff,reduceCtorEq,avS,prD_B,ty_3,ty_102,ty_26]))
 exact Sub.refl _
def linkB (p:Pr):Bool:=decide (p.1≥0)&&decide (p.1 < p.2)&&decide (p.2 < 24)
theorem nvalid_spec (p:Pr):Spec Tryz.prog 64 [.agg (prD p)] (.r1 (aB (linkB p))):=by
 refine spec_of T_ok Tryz.func64 (by dsimp only [Tryz.f64]) rfl rfl (by simp) fun w F=>?_
 repeat' (first |(with_reducible refine aw_seq ?_)|((with_reducible refine And.intro ?_ ?_);(focus (first |omega|rfl)))|((first |((with_reducible refine aw_regionA T_ok ?_ ?_);kernel_rfl)|(with_reducible refine aw_ret ?_) );simp only [↓avP,avQ,avR,forall_const,implies_true,Nat.reduceEqDiff,Nat.reduceAdd,Int.reduceToNat,Nat.reduceLeDiff,reduceCtorEq,avS,prD_B,ty_3,ty_102,ty_26]))
 all_goals first |exact Sub.refl _|exact Sub.of_eq (by simp [linkB])
def packetB (p:Pk):Bool:=linkB (mm p.frm p.to_)&&decide ((p.data.length:Int)≤1048576)
theorem npacket_spec (p:Pk):Spec Tryz.prog 63 [aPk p] (.r1 (aB (packetB p))):=by
 refine spec_of T_ok Tryz.func63 (by dsimp only [Tryz.f63]) rfl rfl (by simp) fun w F=>?_
 repeat' (first |(with_reducible refine aw_seq ?_)|((first |((with_reducible refine aw_regionA T_ok ?_ ?_);kernel_rfl)|((with_reducible refine callI_spec (nbetween_spec _ _) (by repeat' (first |exact ta_n|refine ta_d ?_)) ?_ ?_ ?_);kernel_rfl;kernel_rfl)|((with_reducible refine callI_spec (nvalid_spec _) (by repeat' (first |exact ta_n|refine ta_a ?_)) ?_ ?_ ?_);kernel_rfl;kernel_rfl)|(with_reducible refine aw_ret ?_) );simp only [↓avP,avQ,avR,forall_const,implies_true,Nat.reduceEqDiff,reduceCtorEq,avS,pkD_B,ty_3,ty_52,ty_50]))
 all_goals first |exact Sub.refl _|exact Sub.of_eq (by simp [packetB])
theorem ncheck1_spec (p:Pk):Spec Tryz.prog 62 [aPk p] (.r1 (aB (!packetB p))):=by
 refine spec_of T_ok Tryz.func62 (by dsimp only [Tryz.f62]) rfl rfl (by simp) fun w F=>?_
 repeat' (first |(with_reducible refine aw_seq ?_)|((first |((with_reducible refine aw_regionA T_ok ?_ ?_);kernel_rfl)|((with_reducible refine callI_spec (npacket_spec _) (by repeat' (first |exact ta_n|refine ta_a ?_)) ?_ ?_ ?_);kernel_rfl;kernel_rfl)|(with_reducible refine aw_ret ?_) );simp only [↓avP,avQ,avR,forall_const,implies_true,Nat.reduceEqDiff,Nat.reduceLeDiff,reduceCtorEq,avS,pkD_B,ty_52]))
 all_goals exact Sub.refl _
def apartAt (l:List Pr) (k:Nat):Bool:=linkB (l.getD k default)&&(decide (k=0)||decide (cmpPr (l.getD (k - 1) default) (l.getD k default) < 0))
def apartB (l:List Pr):Bool:=(List.range l.length).all (apartAt l)
def netChk (n:NetP):Int:=if n.queue.length > 4096∨n.queue.any (fun p=> !packetB p)=true then 60 else if apartB n.apart=true then 0 else 60
theorem fnPk (l:List Pk):∀ asA r,FnM aPk (fun p=> !packetB p) l asA r→Spec Tryz.prog 62 asA r:=by
 rintro asA r ⟨x,_,rfl,rfl⟩
 exact ncheck1_spec x
theorem ncheck_spec (n:NetP) (hq:n.queue.length≤140737488351232) (ha:n.apart.length≤140737488351232):Spec Tryz.prog 31 [.agg (netD n)] (.r1 (aI (netChk n))):=by
 refine spec_of T_ok Tryz.func31 (by dsimp only [Tryz.f31]) rfl rfl (by simp) fun w F=>?_
 by_cases hb:n.queue.length > 4096
 ·have hd:decide ((n.queue.length:Int) > 4096)=true:=decide_eq_true (by omega)
  repeat' (first |(with_reducible first |refine aw_seq ?_|refine two_t ?_)|((first |((with_reducible refine aw_regionA T_ok ?_ ?_);kernel_rfl)|((with_reducible refine callK_fz (pks_contains n.queue (fun p=> !packetB p) hq) rfl ?_ ?_ ?_);(focus (repeat' (first |(exact FzA.nil)|(exact Fz.d rfl)|(refine FzA.one ?_ ?_)|(refine Fz.fc (by kernel_rfl) (fnPk n.queue))));done);kernel_rfl)|((with_reducible refine aw_condM ?_ ?_);kernel_rfl)|(with_reducible refine aw_ret ?_) );simp only [↓avP,avQ,avR,forall_const,implies_true,Nat.reduceEqDiff,Nat.reduceAdd,reduceCtorEq,avS,netD_B,ty_23,ty_26,hd]))
  exact Sub.of_eq (congrArg aI (by unfold netChk;rw [if_pos (.inl hb)]))
 ·have hd:decide ((n.queue.length:Int) > 4096)=false:=decide_eq_false (by omega)
  cases hc:n.queue.any (fun p=> !packetB p) with
  |true=>
    repeat' (first |(with_reducible first |refine aw_seq ?_|refine two_t ?_|refine two_f ?_|refine aw_block ?_)|((first |((with_reducible refine aw_regionA T_ok ?_ ?_);kernel_rfl)|((with_reducible refine callK_fz (pks_contains n.queue (fun p=> !packetB p) hq) rfl ?_ ?_ ?_);(focus (repeat' (first |(exact FzA.nil)|(exact Fz.d rfl)|(refine FzA.one ?_ ?_)|(refine Fz.fc (by kernel_rfl) (fnPk n.queue))));done);kernel_rfl)|(with_reducible refine aw_skip ?_)|((with_reducible refine aw_condM ?_ ?_);kernel_rfl)|(with_reducible refine aw_ret ?_) );simp only [↓avP,avQ,avR,forall_const,implies_true,Nat.reduceEqDiff,Nat.reduceAdd,reduceCtorEq,avS,netD_B,ty_23,ty_24,ty_26,hd,hc]))
    exact Sub.of_eq (congrArg aI (by unfold netChk;rw [if_pos (.inr hc)]))
  |false=>
    have hn:¬ (n.queue.length > 4096∨n.queue.any (fun p=> !packetB p)=true):=by rw [hc];simp;omega
    repeat' (first |(with_reducible first |refine aw_seq ?_|refine two_t ?_|refine two_f ?_|refine aw_block ?_)|((first |((with_reducible refine aw_regionA T_ok ?_ ?_);kernel_rfl)|((with_reducible refine callK_fz (pks_contains n.queue (fun p=> !packetB p) hq) rfl ?_ ?_ ?_);(focus (repeat' (first |(exact FzA.nil)|(exact Fz.d rfl)|(refine FzA.one ?_ ?_)|(refine Fz.fc (by kernel_rfl) (fnPk n.queue))));done);kernel_rfl)|(with_reducible refine aw_skip ?_)|((with_reducible refine aw_condM ?_ ?_);kernel_rfl)|(with_reducible refine aw_ret ?_) );simp only [↓avP,avQ,avR,forall_const,implies_true,Nat.reduceEqDiff,Nat.reduceAdd,reduceCtorEq,avS,netD_B,ty_23,ty_24,ty_26,hd,hc]))
    refine aw_loopI (fun k:Nat=>⟨[(1,.ptr 0 0),(2,vI 0),(15,vPrs n.apart),(16,vI n.apart.length),(17,vI k)],[(0,.cells 26 (dV (netD n)))],1⟩) (fun k=>k≤n.apart.length∧∀ i,i < k→apartAt n.apart i=true) (fun k=>n.apart.length - k) 0 ⟨Nat.zero_le _,fun i hi=>absurd hi (Nat.not_lt_zero i)⟩ (wk_of [(0,some 0)] rfl rfl ?_ ?_) ?_
    ·simp only [wkA,reduceIte,Nat.reduceEqDiff]
     (repeat' (first |rfl|exact subVs_d _ _))
    ·simp only [wkA,reduceIte,Nat.reduceEqDiff]
     (repeat' (first |rfl|exact subVs_d _ _))
    rintro k ⟨hk,h0⟩
    rcases Nat.lt_or_ge k n.apart.length with hlt|hge
    ·have hd2:=ltd hlt
     have ht1:((k:Int) - 1).toNat=k - 1:=by omega
     have hbad:apartAt n.apart k=false→netChk n=60:=fun h=>by
      unfold netChk
      rw [if_neg hn,if_neg]
      unfold apartB
      rw [Bool.not_eq_true,List.all_eq_false]
      exact ⟨k,by simpa using hlt,by rw [h];simp⟩
     cases hv:linkB (n.apart.getD k default) with
     |false=>
       repeat' (first |(with_reducible first |refine aw_seq ?_|refine aw_stop (id:=6) ?_|refine two_t ?_)|((with_reducible refine And.intro ?_ ?_);(focus (first |omega|rfl)))|(with_reducible refine aw_block ?_)|((first |((with_reducible refine aw_regionA T_ok ?_ ?_);kernel_rfl)|(with_reducible refine aw_skip ?_)|((with_reducible refine aw_condM ?_ ?_);kernel_rfl) );simp only [↓avP,avQ,avR,forall_const,implies_true,Nat.reduceEqDiff,Nat.reduceAdd,Nat.reduceLeDiff,reduceCtorEq,prD_B,ty_101,ty_24,hd2]))
       refine ⟨?_⟩
       refine aw_frzC 1 (prD (n.apart.getD k default)) rfl rfl ?_
       simp only [frzP,frzPV,if_true,reduceIte,List.drop_zero,delB]
       repeat' (first |(with_reducible first |refine aw_seq ?_|refine two_t ?_)|((with_reducible refine And.intro ?_ ?_);(focus (first |omega|grind)))|((first |((with_reducible refine aw_regionA T_ok ?_ ?_);kernel_rfl)|((with_reducible refine aw_drawnA T_ok ?_ ?_ ?_ ?_);kernel_rfl;kernel_rfl;(focus (decide+kernel)))|((with_reducible refine callK_intro (nvalid_spec _) (by repeat' (first |exact ta_n|refine ta_a ?_)) ?_ ?_);kernel_rfl)|((with_reducible refine callK_skip (.r1 (aI 0)) (by with_unfolding_all rfl) ?_ ?_);kernel_rfl)|((with_reducible refine aw_condM ?_ ?_);kernel_rfl)|(with_reducible refine aw_ret ?_) );simp only [↓avP,avQ,avR,forall_const,implies_true,Nat.reduceEqDiff,Nat.reduceAdd,Nat.reduceLeDiff,reduceCtorEq,netD_B,prD_B,prD_m,ty_3,ty_101,ty_24,ty_26,hv];try simp (disch:=omega) only [av_w,av_t1]))
       exact Sub.of_eq (congrArg aI (hbad (by unfold apartAt;rw [hv];rfl)).symm)
     |true=>
     have hnext:(decide (k=0)||decide (cmpPr (n.apart.getD (k - 1) default) (n.apart.getD k default) < 0))=true→∀ i,i < k+1→apartAt n.apart i=true:=fun h i hi=>by
      rcases Nat.lt_succ_iff_lt_or_eq.1 hi with h'|rfl
      ·exact h0 i h'
      ·unfold apartAt;rw [hv,h];rfl
     by_cases hk0:k=0
     ·have hz:decide ((k:Int) > 0)=false:=decide_eq_false (by omega)
      repeat' (first |(with_reducible first |refine aw_seq ?_|refine aw_stop (id:=6) ?_|refine two_t ?_)|((with_reducible refine And.intro ?_ ?_);(focus (first |omega|rfl)))|(with_reducible refine aw_block ?_)|((first |((with_reducible refine aw_regionA T_ok ?_ ?_);kernel_rfl)|(with_reducible refine aw_skip ?_)|((with_reducible refine aw_condM ?_ ?_);kernel_rfl) );simp only [↓avP,avQ,avR,forall_const,implies_true,Nat.reduceEqDiff,Nat.reduceAdd,Nat.reduceLeDiff,reduceCtorEq,prD_B,ty_101,ty_24,hd2]))
      refine ⟨?_⟩
      refine aw_frzC 1 (prD (n.apart.getD k default)) rfl rfl ?_
      simp only [frzP,frzPV,if_true,reduceIte,List.drop_zero,delB]
      repeat' (first |(with_reducible refine two_f ?_)|((with_reducible refine And.intro ?_ ?_);(focus (first |omega|grind)))|((first |((with_reducible refine aw_regionA T_ok ?_ ?_);kernel_rfl)|((with_reducible refine aw_drawnA T_ok ?_ ?_ ?_ ?_);kernel_rfl;kernel_rfl;(focus (decide+kernel)))|((with_reducible refine callK_intro (nvalid_spec _) (by repeat' (first |exact ta_n|refine ta_a ?_)) ?_ ?_);kernel_rfl)|((with_reducible refine callK_skip (.r1 (aI 0)) (by with_unfolding_all rfl) ?_ ?_);kernel_rfl)|(with_reducible refine aw_skip ?_)|((with_reducible refine aw_condM ?_ ?_);kernel_rfl) );simp only [↓avP,avQ,avR,forall_const,implies_true,Nat.reduceEqDiff,Nat.reduceAdd,Nat.reduceLeDiff,reduceCtorEq,netD_B,prD_B,prD_m,ty_3,ty_101,ty_24,ty_26,hv,hz];try simp (disch:=omega) only [av_w,av_t1]))
      refine ⟨k+1,⟨by omega,hnext (by rw [decide_eq_true hk0];rfl)⟩,by dsimp only;omega,wk_of [(0,some 0)] rfl rfl ?_ ?_⟩
      ·simp only [wkA,reduceIte,Nat.reduceEqDiff]
       (repeat' (first |rfl|exact subVs_d _ _))
      ·simp only [wkA,reduceIte,Nat.reduceEqDiff]
       (repeat' (first |rfl|exact subVs_d _ _))
     ·have hz:decide ((k:Int) > 0)=true:=decide_eq_true (by omega)
      cases hc2:decide (cmpPr (n.apart.getD (k - 1) default) (n.apart.getD k default)≥0) with
      |true=>
        repeat' (first |(with_reducible first |refine aw_seq ?_|refine aw_stop (id:=6) ?_|refine two_t ?_)|((with_reducible refine And.intro ?_ ?_);(focus (first |omega|rfl)))|(with_reducible refine aw_block ?_)|((first |((with_reducible refine aw_regionA T_ok ?_ ?_);kernel_rfl)|(with_reducible refine aw_skip ?_)|((with_reducible refine aw_condM ?_ ?_);kernel_rfl) );simp only [↓avP,avQ,avR,forall_const,implies_true,Nat.reduceEqDiff,Nat.reduceAdd,Nat.reduceLeDiff,reduceCtorEq,prD_B,ty_101,ty_24,hd2]))
        refine ⟨?_⟩
        refine aw_frzC 1 (prD (n.apart.getD k default)) rfl rfl ?_
        simp only [frzP,frzPV,if_true,reduceIte,List.drop_zero,delB]
        repeat' (first |(with_reducible first |refine aw_seq ?_|refine two_t ?_|refine two_f ?_)|((with_reducible refine And.intro ?_ ?_);(focus (omega)))|((first |((with_reducible refine aw_regionA T_ok ?_ ?_);kernel_rfl)|((with_reducible refine aw_drawnA T_ok ?_ ?_ ?_ ?_);kernel_rfl;kernel_rfl;(focus (decide+kernel)))|((with_reducible refine callK_intro (nvalid_spec _) (by repeat' (first |exact ta_n|refine ta_a ?_)) ?_ ?_);kernel_rfl)|((with_reducible refine callK_intro (compare_spec _ _ _ _) (by repeat' (first |exact ta_n|refine ta_d ?_)) ?_ ?_);kernel_rfl)|(with_reducible refine aw_skip ?_)|((with_reducible refine aw_condM ?_ ?_);kernel_rfl)|(with_reducible refine aw_ret ?_) );simp only [↓avP,avQ,avR,forall_const,implies_true,Nat.reduceEqDiff,Nat.reduceAdd,Nat.reduceLeDiff,reduceCtorEq,netD_B,prD_B,prD_m,ty_3,ty_101,ty_24,ty_26,hv,hz,hc2];try simp (disch:=omega) only [av_w,av_t1]))
        exact Sub.of_eq (congrArg aI (hbad (by unfold apartAt;rw [hv,decide_eq_false hk0,decide_eq_false (by have:=of_decide_eq_true hc2;omega)];rfl)).symm)
      |false=>
        repeat' (first |(with_reducible first |refine aw_seq ?_|refine aw_stop (id:=6) ?_|refine two_t ?_)|((with_reducible refine And.intro ?_ ?_);(focus (first |omega|rfl)))|(with_reducible refine aw_block ?_)|((first |((with_reducible refine aw_regionA T_ok ?_ ?_);kernel_rfl)|(with_reducible refine aw_skip ?_)|((with_reducible refine aw_condM ?_ ?_);kernel_rfl) );simp only [↓avP,avQ,avR,forall_const,implies_true,Nat.reduceEqDiff,Nat.reduceAdd,Nat.reduceLeDiff,reduceCtorEq,prD_B,ty_101,ty_24,hd2]))
        refine ⟨?_⟩
        refine aw_frzC 1 (prD (n.apart.getD k default)) rfl rfl ?_
        simp only [frzP,frzPV,if_true,reduceIte,List.drop_zero,delB]
        repeat' (first |(with_reducible first |refine aw_seq ?_|refine two_t ?_|refine two_f ?_)|((with_reducible refine And.intro ?_ ?_);(focus (omega)))|((first |((with_reducible refine aw_regionA T_ok ?_ ?_);kernel_rfl)|((with_reducible refine aw_drawnA T_ok ?_ ?_ ?_ ?_);kernel_rfl;kernel_rfl;(focus (decide+kernel)))|((with_reducible refine callK_intro (nvalid_spec _) (by repeat' (first |exact ta_n|refine ta_a ?_)) ?_ ?_);kernel_rfl)|((with_reducible refine callK_intro (compare_spec _ _ _ _) (by repeat' (first |exact ta_n|refine ta_d ?_)) ?_ ?_);kernel_rfl)|(with_reducible refine aw_skip ?_)|((with_reducible refine aw_condM ?_ ?_);kernel_rfl)|(with_reducible refine aw_ret ?_) );simp only [↓avP,avQ,avR,forall_const,implies_true,Nat.reduceEqDiff,Nat.reduceAdd,Nat.reduceLeDiff,reduceCtorEq,netD_B,prD_B,prD_m,ty_3,ty_101,ty_24,ty_26,hv,hz,hc2];try simp (disch:=omega) only [av_w,av_t1]))
        refine ⟨k+1,⟨by omega,hnext (by rw [decide_eq_true (show cmpPr (n.apart.getD (k - 1) default) (n.apart.getD k default) < 0 by have:=of_decide_eq_false hc2;omega),Bool.or_true])⟩,by dsimp only;omega,wk_of [(0,some 0)] rfl rfl ?_ ?_⟩
        ·simp only [wkA,reduceIte,Nat.reduceEqDiff]
         (repeat' (first |rfl|exact subVs_d _ _))
        ·simp only [wkA,reduceIte,Nat.reduceEqDiff]
         (repeat' (first |rfl|exact subVs_d _ _))
    ·obtain rfl:k=n.apart.length:=by omega
     have hd2:=ged (Nat.le_refl n.apart.length)
     repeat' (first |(with_reducible first |refine aw_seq ?_|refine two_f ?_)|((first |((with_reducible refine aw_regionA T_ok ?_ ?_);kernel_rfl)|(with_reducible refine aw_exit ?_)|((with_reducible refine aw_condM ?_ ?_);kernel_rfl)|(with_reducible refine aw_ret ?_) );simp only [↓avP,avQ,avR,forall_const,implies_true,Nat.reduceEqDiff,avS,hd2]))
     exact Sub.of_eq (congrArg aI (by
      unfold netChk
      rw [if_neg hn,if_pos]
      unfold apartB
      rw [List.all_eq_true]
      exact fun i hi=>h0 i (by simpa using hi)))
theorem sub_net0:Sub (.agg [.c (.slice none 0 0),.c (.slice none 0 0)]) (.agg (netD ⟨[],[]⟩)):=Sub.aggL ⟨.of _ _ rfl,.of _ _ rfl,trivial⟩
theorem nnew_spec:Spec Tryz.prog 29 [] (.r1 (.agg (netD ⟨[],[]⟩))):=by
 refine spec_of T_ok Tryz.func29 (by dsimp only [Tryz.f29]) rfl rfl (by simp) fun w F=>?_
 repeat' (first |(with_reducible refine aw_seq ?_)|((with_reducible refine And.intro ?_ ?_);(focus (first |omega|rfl)))|((first |((with_reducible refine aw_regionA T_ok ?_ ?_);kernel_rfl)|(with_reducible refine aw_ret ?_) );simp only [↓avP,avQ,avR,forall_const,implies_true,Nat.reduceEqDiff,Nat.reduceAdd,Int.reduceToNat,Nat.reduceLeDiff,reduceCtorEq,avS,prD_B,ty_3,ty_102,ty_26]))
 exact sub_net0
def okNet (n:NetP):Prop:=n.queue.length≤1048576∧n.apart.length≤140737488351232
def sendErr (n:NetP) (p:Pk):Int:=if netChk n≠0∨packetB p=false then 60 else if n.queue.length=4096 then 2 else 0
abbrev net0:NetP:=⟨[],[]⟩
def sendN (n:NetP) (p:Pk):NetP:=if sendErr n p=0 then ⟨n.queue++[p],n.apart⟩ else net0
theorem nsend_spec (n:NetP) (p:Pk) (hn:okNet n):Spec Tryz.prog 80 [.agg (netD n),aPk p] (.rt [.agg (netD (sendN n p)),aI (sendErr n p)]):=by
 obtain ⟨hq,ha⟩:=hn
 refine spec_of T_ok Tryz.func80 (by dsimp only [Tryz.f80]) rfl rfl (by simp) fun w F=>?_
 cases h1:(netChk n != 0) with
 |true=>
   repeat' (first |(with_reducible first |refine aw_seq ?_|refine two_t ?_)|((with_reducible refine And.intro ?_ ?_);(focus (rfl)))|((first |((with_reducible refine aw_regionA T_ok ?_ ?_);kernel_rfl)|((with_reducible refine callI_spec (ncheck_spec n (by omega) ha) ?_ ?_ ?_ ?_);(focus (with_unfolding_all rfl));kernel_rfl;kernel_rfl)|((with_reducible refine callK_intro (npacket_spec _) (by repeat' (first |exact ta_n|refine ta_a ?_)) ?_ ?_);kernel_rfl)|((with_reducible refine aw_condM ?_ ?_);kernel_rfl)|(with_reducible refine aw_ret ?_) );simp only [↓avP,avQ,avR,forall_const,implies_true,Nat.reduceEqDiff,Nat.reduceAdd,Nat.reduceLeDiff,reduceCtorEq,avS,netD_B,pkD_B,ty_52,ty_26,h1]))
   have he:sendErr n p=60:=by unfold sendErr;rw [if_pos (.inl (by simpa using h1))]
   rw [sendN,he,if_neg (by decide)]
   exact ⟨sub_net0,Sub.refl _⟩
 |false=>
 cases h2:packetB p with
 |false=>
   repeat' (first |(with_reducible first |refine aw_seq ?_|refine two_t ?_)|((with_reducible refine And.intro ?_ ?_);(focus (rfl)))|((first |((with_reducible refine aw_regionA T_ok ?_ ?_);kernel_rfl)|((with_reducible refine callI_spec (ncheck_spec n (by omega) ha) ?_ ?_ ?_ ?_);(focus (with_unfolding_all rfl));kernel_rfl;kernel_rfl)|((with_reducible refine callK_intro (npacket_spec _) (by repeat' (first |exact ta_n|refine ta_a ?_)) ?_ ?_);kernel_rfl)|((with_reducible refine aw_condM ?_ ?_);kernel_rfl)|(with_reducible refine aw_ret ?_) );simp only [↓avP,avQ,avR,forall_const,implies_true,Nat.reduceEqDiff,Nat.reduceAdd,Nat.reduceLeDiff,reduceCtorEq,avS,netD_B,pkD_B,ty_52,ty_26,h1,h2]))
   have he:sendErr n p=60:=by unfold sendErr;rw [if_pos (.inr h2)]
   rw [sendN,he,if_neg (by decide)]
   exact ⟨sub_net0,Sub.refl _⟩
 |true=>
 cases h3:((n.queue.length:Int)==4096) with
 |true=>
   repeat' (first |(with_reducible first |refine aw_seq ?_|refine two_t ?_|refine two_f ?_)|((with_reducible refine And.intro ?_ ?_);(focus (rfl)))|((first |((with_reducible refine aw_regionA T_ok ?_ ?_);kernel_rfl)|((with_reducible refine callI_spec (ncheck_spec n (by omega) ha) ?_ ?_ ?_ ?_);(focus (with_unfolding_all rfl));kernel_rfl;kernel_rfl)|((with_reducible refine callK_intro (npacket_spec _) (by repeat' (first |exact ta_n|refine ta_a ?_)) ?_ ?_);kernel_rfl)|(with_reducible refine aw_skip ?_)|((with_reducible refine aw_condM ?_ ?_);kernel_rfl)|(with_reducible refine aw_ret ?_) );simp only [↓avP,avQ,avR,forall_const,implies_true,Nat.reduceEqDiff,Nat.reduceAdd,Nat.reduceLeDiff,reduceCtorEq,avS,netD_B,pkD_B,ty_52,ty_23,ty_26,h1,h2,h3]))
   have he:sendErr n p=2:=by
    unfold sendErr
    rw [if_neg (by rw [h2];simpa using h1),if_pos (by have:=beq_iff_eq.1 h3;omega)]
   rw [sendN,he,if_neg (by decide)]
   exact ⟨sub_net0,Sub.refl _⟩
 |false=>
   have htk:List.take n.queue.length (n.queue.map pkD)=n.queue.map pkD:=List.take_of_length_le (by simp)
   repeat' (first |(with_reducible first |refine aw_seq ?_|refine two_f ?_)|((with_reducible refine And.intro ?_ ?_);(focus (first |omega|rfl|decide)))|((first |((with_reducible refine aw_regionA T_ok ?_ ?_);kernel_rfl)|((with_reducible refine aw_drawnX [0,1,2,3,4,5,6,7,8,9,10,11,12] [13] T_ok ?_ ?_ ?_ ?_);kernel_rfl;kernel_rfl;(focus (decide+kernel)))|((with_reducible refine callI_spec (ncheck_spec n (by omega) ha) ?_ ?_ ?_ ?_);(focus (with_unfolding_all rfl));kernel_rfl;kernel_rfl)|((with_reducible refine callK_intro (npacket_spec _) (by repeat' (first |exact ta_n|refine ta_a ?_)) ?_ ?_);kernel_rfl)|(with_reducible refine aw_skip ?_)|((with_reducible refine aw_condM ?_ ?_);kernel_rfl)|(with_reducible refine aw_ret ?_) );simp only [↓avP,avQ,avR,forall_const,implies_true,Nat.reduceEqDiff,Nat.reduceAdd,Nat.reduceLeDiff,Nat.reduceLT,reduceCtorEq,avS,netD_B,pkD_B,ty_52,ty_23,ty_26,h1,h2,h3,htk]))
   have he:sendErr n p=0:=by
    unfold sendErr
    rw [if_neg (by rw [h2];simpa using h1),if_neg (by have:=beq_eq_false_iff_ne.1 h3;omega)]
   rw [sendN,he,if_pos rfl]
   exact ⟨Sub.of_eq (by simp [netD]),Sub.refl _⟩

def drawOkI (l:List Oper) (hd tail:List Nat) (iws:List Nat):Bool:=
 sinkT .any l.toArray (fun i=>hd.contains i)&&tail.all (fun t=> !hd.contains t)&&(List.range l.length).all (fun i=>hd.contains i||tail.contains i)&&hd.all (fun i=>decide (i < l.length))&&decide hd.Nodup&&
 (List.range l.length).all (fun i=>match l[i]? with|some o=>o.after.toList.all fun e=> !Region.binds .any e||decide (e.on < i)|none=>true)&&incr (pickOps l (hd.filter (fun i=> !iws.contains i)))&&
 (pickOps l (hd.filter (fun i=> !iws.contains i))).all (fun p=>(p.2.looksAt l.toArray).all fun t=>(pickOps l (hd.filter (fun i=> !iws.contains i))).all fun q=>q.2.dst != some t||(if q.1 < p.1 then reachB .any l.toArray l.length p.1 q.1 else decide (p.1 < q.1)&&reachB .any l.toArray l.length q.1 p.1))&&
 seqT .any l.toArray tail (canonH l.length hd)&&decide (hd.length+tail.length=l.length)&&iws.all (fun iw=>hd.contains iw&&
 (match l[iw]? with
  |some o=>o.dst==none&&o.guard==none&&(o.looksAt l.toArray).all fun t=>(pickOps l (hd.filter (fun i=> !iws.contains i))).all fun q=>q.2.dst != some t||reachB .any l.toArray l.length iw q.1
  |none=>false))
section
variable {P:Program} {B:Base} {T:Tab}
theorem wpAny_headsI {l:List Oper} {hd tail:List Nat} {iws:List Nat} {Q:Exit→Act→World→Prop} {tm0 tmF:List (Nat×V)} {st00 st0 nbF:List (Nat×Blk)} {nx:Nat} (hok:drawOkI l hd tail iws=true) (hrun:HRun P B l.toArray st00 nx tmF nbF (pickOps l (hd.filter (fun i=> !iws.contains i))) tm0 []) (hN:(l.all (opOk B.N))=true)
  (hst0:∀ n,nx≤n→lkB st0 n=none) (hs0:∀ n b,lkB st00 n=some b→lkB st0 n=some b)
  (hwr:∀ iw∈iws,∀ ow,l[iw]? =some ow→∀ (tm:Nat→V) (σ:Nat→Option Blk) (fr:Nat→Prop) (E:Env) (a:Act),GamS P B σ fr E→GamT B tm E a→(∀ n,n < nx→σ n=lkB st0 n)→(∀ t∈ow.looksAt l.toArray,tm t=lkT tmF t)→
   Upon P (fun u w'=>∃ E',E'.w=w'∧GamS P B σ fr E'∧Ext E E'∧E'.dp=E.dp) ((execOp a.eval ow).run P E.w))
  (hQ:∀ E a,Gam P B ⟨tmF,nbF++st0,nx+l.length⟩ E a→wpListIn (fen B.r) 0 P l.toArray Q ((pickOps l tail).map (·.2)) a E.w):
  ∀ (F:Nat) (listed:Array Bool) (E:Env) (a:Act),GInv .any l.toArray listed→(∀ t∈tail,listed.getD t false=false)→hd.countP (fun i=> !listed.getD i false)=F→
   GamS P B (fun n=>if nx≤n then (if listed.getD (n - nx) false=true then lkB nbF n else none) else lkB st0 n) (fun n=>nx≤n∧(listed.getD (n - nx) false=true→lkB nbF n=none)) E→
   GamT B (fun t=>if ((pickOps l (hd.filter (fun i=> !iws.contains i))).any fun p=>p.2.dst==some t&&listed.getD p.1 false)=true then lkT tmF t else lkT tm0 t) E a→wpAnyIn (fen B.r) 0 P .any l.toArray Q (F+tail.length) listed a E.w:=by
 simp only [drawOkI,Bool.and_eq_true] at hok
 obtain ⟨⟨⟨⟨⟨⟨⟨⟨⟨⟨hsink,htl⟩,hpart⟩,hlt⟩,hnd⟩,hedge⟩,hincr⟩,hdep⟩,hseq⟩,_⟩,hwok⟩:=hok
 have hmN:∀ {j:Nat},j∈hd.filter (fun i=> !iws.contains i)↔j∈hd∧j ∉ iws:=fun {j}=>by simp [List.mem_filter]
 obtain ⟨f1,f2,_⟩:=hrun_facts _ _ _ hincr hrun
 have hnd':hd.Nodup:=by simpa using hnd
 have htl':∀ t∈tail,hd.contains t=false:=fun t ht=>by have:=List.all_eq_true.1 htl t ht;simpa using this
 intro F
 induction F with
 |zero=>
   intro listed E a inv hT hcnt hS hGT
   have hall:∀ i∈hd,listed.getD i false=true:=fun i hi=>by
    have:=List.countP_eq_zero.1 hcnt i hi
    simpa using this
   have hsz:listed.size=l.length:=by rw [inv.size];simp
   have hcan:listed=canonH l.length hd:=by
    refine Array.ext_getElem? fun i=>?_
    have hcs:=(foldl_canon hd (Array.replicate l.length false) i)
    have hcsz:(canonH l.length hd).size=l.length:=by unfold canonH;rw [hcs.1];simp
    by_cases hi:i < l.length
    ·have e1:listed[i]? =some (listed.getD i false):=by simp [Array.getD_eq_getD_getElem?,hsz,hi]
     have e2:(canonH l.length hd)[i]? =some ((canonH l.length hd).getD i false):=by simp [Array.getD_eq_getD_getElem?,hcsz,hi]
     rw [e1,e2]
     congr 1
     unfold canonH
     rw [hcs.2]
     rw [getD_replicate_false]
     simp only [Array.size_replicate,Bool.false_or]
     by_cases hh:hd.contains i=true
     ·rw [hh,hall i (by simpa using hh)];simp [hi]
     ·have:=List.all_eq_true.1 hpart i (List.mem_range.2 hi)
      simp only [Bool.or_eq_true] at this
      rcases this with h|h
      ·exact (hh h).elim
      ·rw [hT i (by simpa using h)];simp only [Bool.not_eq_true] at hh;rw [hh];rfl
    ·rw [Array.getElem?_eq_none (by omega),Array.getElem?_eq_none (by omega)]
   rw [Nat.zero_add]
   refine wpAnyIn_of_seqT tail listed a E.w (by rw [hcan];exact hseq) (hQ E a ⟨hS.congr (fun n=>?_) (fun n hn=>?_),⟨fun t=>?_,hGT.defers,hGT.size⟩⟩)
   ·
    have hap:lkB (nbF++st0) n=match lkB nbF n with|some b=>some b|none=>lkB st0 n:=by
     generalize nbF=nb
     induction nb with
     |nil=>rfl
     |cons p nb ih=>
       obtain ⟨k,b⟩:=p
       simp only [List.cons_append,lkB]
       split
       ·rfl
       ·exact ih
    show lkB (nbF++st0) n=_
    rw [hap]
    by_cases hn:nx≤n
    ·rw [if_pos hn]
     by_cases hh:hd.contains (n - nx)=true
     ·rw [if_pos (hall _ (by simpa using hh)),hst0 n hn];cases lkB nbF n<;>rfl
     ·have:lkB nbF n=none:=by
       rw [f2 n (fun p hp e=>hh ?_)];rfl
       have:=(hmN.1 (pickOps_mem.1 hp).1).1
       rw [e,Nat.add_sub_cancel_left];simpa using this
      rw [this,hst0 n hn];simp
    ·rw [if_neg hn]
     have:lkB nbF n=none:=by
      rw [f2 n (fun p hp e=>by omega)];rfl
     rw [this]
   ·have hn':nx+l.length≤n:=hn
    refine ⟨by omega,fun h=>?_⟩
    rw [show listed.getD (n - nx) false=false by
     simp [Array.getD_eq_getD_getElem?,Array.getElem?_eq_none (show listed.size≤n - nx by omega)]] at h
    cases h
   ·have:=hGT.tm t
    show RV E (lkT tmF t) _
    by_cases hw:((pickOps l (hd.filter (fun i=> !iws.contains i))).any fun p=>p.2.dst==some t&&listed.getD p.1 false)=true
    ·rw [if_pos hw] at this;exact this
    ·rw [if_neg hw] at this
     rw [f1 t (fun p hp e=>hw (List.any_eq_true.2 ⟨p,hp,by simp [e,hall p.1 (hmN.1 (pickOps_mem.1 hp).1).1]⟩))]
     exact this
 |succ F ih=>
   intro listed E a inv hT hcnt hS hGT
   have hsz:listed.size=l.length:=by rw [inv.size];simp
   rw [show F+1+tail.length=(F+tail.length)+1 by omega]
   obtain ⟨k,hk,hku⟩:∃ k,k∈hd∧listed.getD k false=false:=by
    have:0 < hd.countP (fun i=> !listed.getD i false):=by omega
    obtain ⟨k,h1,h2⟩:=List.countP_pos_iff.1 this
    exact ⟨k,h1,by simpa using h2⟩
   have hkl:k < l.length:=by have:=List.all_eq_true.1 hlt k hk;simpa using this
   have hku':listed.getD k true=false:=getD_in (by omega) hku
   refine ⟨fun hr=>?_,fun i hi=>?_⟩
   ·
    obtain ⟨m,⟨hm1,hm2⟩,hm3⟩:=exists_min (p:=fun m=>m < l.length∧listed.getD m false=false) ⟨k,hkl,hku⟩
    have:m∈Region.ready .any l.toArray listed:=by
     refine mem_ready.2 ⟨getD_in (by omega) hm2,l[m],by simp [hm1],fun e he hb=>?_⟩
     have h1:=List.all_eq_true.1 hedge m (List.mem_range.2 hm1)
     rw [List.getElem?_eq_getElem hm1] at h1
     have h2:=List.all_eq_true.1 h1 e (by simpa using he)
     rw [hb] at h2
     simp at h2
     cases hc:listed.getD e.on false with
     |true=>rfl
     |false=>exact (hm3 e.on h2 ⟨by omega,hc⟩).elim
    rw [hr] at this
    cases this
   ·have hih:=sink_spec hsink inv (i:=k) (by simpa using hkl) (by simpa using hk) hku' hi
    have hi':i∈hd:=by simpa using hih
    obtain ⟨hiun,o,ho,hafter⟩:=mem_ready.1 hi
    have hol:l[i]? =some o:=by simpa using ho
    have hil:i < l.length:=(List.getElem?_eq_some_iff.1 hol).1
    have hiun':=getD_both hiun
    have hopk:=List.all_eq_true.1 hN o (List.mem_of_getElem? hol)
    have inv2:=inv.set hi
    have hself:(listed.setIfInBounds i true).getD i false=true:=by simp [hsz,hil]
    have hoth:∀ j,j≠i→(listed.setIfInBounds i true).getD j false=listed.getD j false:=fun j hj=>getD_set_ne false (Ne.symm hj)
    have hT2:∀ t∈tail,(listed.setIfInBounds i true).getD t false=false:=fun t ht=>by
     rw [hoth t (fun e=>by have:=htl' t ht;rw [e] at this;rw [this] at hih;cases hih)];exact hT t ht
    have hcnt2:hd.countP (fun j=> !(listed.setIfInBounds i true).getD j false)=F:=by
     have:=countP_set hnd' hi' (f:=fun j=> !listed.getD j false) (g:=fun j=> !(listed.setIfInBounds i true).getD j false) (by simp [hiun']) (by simp [hself]) (fun j hj=>by rw [hoth j hj])
     omega
    by_cases hiw:i∈iws
    ·
     have hwok:=List.all_eq_true.1 hwok i hiw
     rw [hol] at hwok
     simp only [Bool.and_eq_true] at hwok
     obtain ⟨_,⟨hwd,hwg⟩,hwl⟩:=hwok
     have hwd':o.dst=none:=by simpa using hwd
     have hwg':o.guard=none:=by simpa using hwg
     have hag:∀ t∈o.looksAt l.toArray,(if ((pickOps l (hd.filter (fun j=> !iws.contains j))).any fun p=>p.2.dst==some t&&listed.getD p.1 false)=true then lkT tmF t else lkT tm0 t)=lkT tmF t:=fun t ht=>by
      by_cases hw:((pickOps l (hd.filter (fun j=> !iws.contains j))).any fun p=>p.2.dst==some t&&listed.getD p.1 false)=true
      ·rw [if_pos hw]
      ·rw [if_neg hw]
       refine (f1 t (fun q hq hqt=>hw (List.any_eq_true.2 ⟨q,hq,?_⟩))).symm
       have h1:=List.all_eq_true.1 (List.all_eq_true.1 hwl t ht) q hq
       simp only [Bool.or_eq_true,bne_iff_ne,ne_eq] at h1
       rcases h1 with h|h
       ·exact (h hqt).elim
       ·have:=reach_listed inv _ _ _ h (fun o' ho' e he hb=>by
         have:o'=o:=Option.some.inj (ho'.symm.trans ho)
         subst this
         exact hafter e he hb)
        simp [hqt,this]
     have hw:Region.wanted o (yielded l.toArray a.tmps)=true:=by simp [Region.wanted,hwg']
     have h1:=hwr i hiw o hol _ _ _ E a hS hGT (fun n hn=>by rw [if_neg (by omega)]) hag
     unfold wpOpIn
     simp only [ho,hw,if_true]
     refine h1.wpIn ?_
     rintro u w' ⟨E',rfl,hS',hext,hdp⟩
     rw [hwd']
     refine ih _ E' _ inv2 hT2 hcnt2 (hS'.congr (fun n=>?_) (fun n hn=>⟨hn.1,fun h=>hn.2 (getD_set_true h)⟩)) ⟨fun t=>?_,((hGT.ext hext hdp)).defers,hGT.size⟩
     ·by_cases hn:nx≤n
      ·
       simp only [if_pos hn]
       by_cases hni:n - nx=i
       ·have hn':n=nx+i:=by omega
        have:lkB nbF n=none:=by
         rw [f2 n (fun p hp e=>by
          have h2:=(hmN.1 (pickOps_mem.1 hp).1).2
          exact h2 (by rw [show p.1=i by omega];exact hiw))];rfl
        rw [this]
        simp
       ·rw [hoth _ hni]
      ·simp only [if_neg hn]
     ·have:=(hGT.ext hext hdp).tm t
      have e:((pickOps l (hd.filter (fun j=> !iws.contains j))).any fun p=>p.2.dst==some t&&(listed.setIfInBounds i true).getD p.1 false)=((pickOps l (hd.filter (fun j=> !iws.contains j))).any fun p=>p.2.dst==some t&&listed.getD p.1 false):=by
       rw [Bool.eq_iff_iff,List.any_eq_true,List.any_eq_true]
       constructor
       ·rintro ⟨p,hp,h⟩
        rw [hoth p.1 (fun e=>(hmN.1 (pickOps_mem.1 hp).1).2 (by rw [e];exact hiw))] at h
        exact ⟨p,hp,h⟩
       ·rintro ⟨p,hp,h⟩
        refine ⟨p,hp,?_⟩
        rw [hoth p.1 (fun e=>(hmN.1 (pickOps_mem.1 hp).1).2 (by rw [e];exact hiw))]
        exact h
      rw [e]
      exact this
    have hmem:(i,o)∈pickOps l (hd.filter (fun i=> !iws.contains i)):=pickOps_mem.2 ⟨hmN.2 ⟨hi',hiw⟩,hol⟩
    have hst:∀ n b,lkB st00 n=some b→(if nx≤n then (if listed.getD (n - nx) false=true then lkB nbF n else none) else lkB st0 n)=some b:=fun n b hb=>by
     by_cases hn:nx≤n
     ·have:=hs0 n b hb;rw [hst0 n hn] at this;cases this
     ·rw [if_neg hn];exact hs0 n b hb
    obtain ⟨_,_,f3⟩:=hrun_facts _ _ _ hincr hrun
    obtain ⟨tmi,v,x,g1,g2,g3,g4,g5⟩:=f3 (i,o) hmem
    simp only at g1 g2 g3 g4 g5
    have g3:=g3 rfl
    have hag:∀ t∈o.looksAt l.toArray,(if ((pickOps l (hd.filter (fun i=> !iws.contains i))).any fun p=>p.2.dst==some t&&listed.getD p.1 false)=true then lkT tmF t else lkT tm0 t)=tmi t:=fun t ht=>by
     have hd1:=List.all_eq_true.1 hdep (i,o) hmem
     have hd2:=List.all_eq_true.1 hd1 t ht
     by_cases hw:((pickOps l (hd.filter (fun i=> !iws.contains i))).any fun p=>p.2.dst==some t&&listed.getD p.1 false)=true
     ·rw [if_pos hw]
      obtain ⟨q,hq,hq2⟩:=List.any_eq_true.1 hw
      simp only [Bool.and_eq_true,beq_iff_eq] at hq2
      have hd3:=List.all_eq_true.1 hd2 q hq
      simp only [Bool.or_eq_true,bne_iff_ne,ne_eq] at hd3
      rcases hd3 with h|h
      ·exact (h hq2.1).elim
      ·by_cases hlt2:q.1 < i
       ·exact (g4 t q hq hlt2 hq2.1).symm
       ·rw [if_neg hlt2] at h
        simp only [Bool.and_eq_true,decide_eq_true_eq] at h
        have:=reach_listed inv _ _ _ h.2 (fun o' ho' e he hb=>inv.closed q.1 o' ho' hq2.2 e he hb)
        rw [hiun'] at this
        cases this
     ·rw [if_neg hw]
      refine (g5 t (fun q hq hql hqt=>hw (List.any_eq_true.2 ⟨q,hq,?_⟩))).symm
      have hd3:=List.all_eq_true.1 hd2 q hq
      simp only [Bool.or_eq_true,bne_iff_ne,ne_eq] at hd3
      rcases hd3 with h|h
      ·exact (h hqt).elim
      ·rw [if_pos hql] at h
       have:=reach_listed inv _ _ _ h (fun o' ho' e he hb=>by
        have:o'=o:=Option.some.inj (ho'.symm.trans ho)
        subst this
        exact hafter e he hb)
       simp [hqt,this]
    obtain ⟨h1,h2⟩:=g1 _ _ _ E a hS hGT ⟨by omega,fun h=>by rw [Nat.add_sub_cancel_left,hiun'] at h;cases h⟩ hst hag
    have hσ2:∀ n,(if nx≤n then (if (listed.setIfInBounds i true).getD (n - nx) false=true then lkB nbF n else none) else lkB st0 n)=if n=nx+i then x else (if nx≤n then (if listed.getD (n - nx) false=true then lkB nbF n else none) else lkB st0 n):=fun n=>by
     by_cases hn:n=nx+i
     ·subst hn
      rw [if_pos rfl,if_pos (by omega),Nat.add_sub_cancel_left,if_pos hself,g3]
     ·rw [if_neg hn]
      by_cases hn2:nx≤n
      ·rw [if_pos hn2,if_pos hn2,hoth (n - nx) (by omega)]
      ·rw [if_neg hn2,if_neg hn2]
    have hfr2:∀ n,(nx≤n∧((listed.setIfInBounds i true).getD (n - nx) false=true→lkB nbF n=none))→(nx≤n∧(listed.getD (n - nx) false=true→lkB nbF n=none))∧(x.isSome=true→n≠nx+i):=fun n hn=>by
     refine ⟨⟨hn.1,fun h=>hn.2 (getD_set_true h)⟩,fun hx e=>?_⟩
     subst e
     have:=hn.2 (by rw [Nat.add_sub_cancel_left];exact hself)
     rw [g3] at this
     rw [this] at hx
     cases hx
    have htm2:∀ t,(if ((pickOps l (hd.filter (fun i=> !iws.contains i))).any fun p=>p.2.dst==some t&&(listed.setIfInBounds i true).getD p.1 false)=true then lkT tmF t else lkT tm0 t)=if o.dst=some t then v else (if ((pickOps l (hd.filter (fun i=> !iws.contains i))).any fun p=>p.2.dst==some t&&listed.getD p.1 false)=true then lkT tmF t else lkT tm0 t):=fun t=>by
     by_cases hd1:o.dst=some t
     ·rw [if_pos hd1,if_pos (List.any_eq_true.2 ⟨(i,o),hmem,by simp [hd1,hself]⟩),g2 t hd1]
     ·rw [if_neg hd1]
      have:((pickOps l (hd.filter (fun i=> !iws.contains i))).any fun p=>p.2.dst==some t&&(listed.setIfInBounds i true).getD p.1 false)=((pickOps l (hd.filter (fun i=> !iws.contains i))).any fun p=>p.2.dst==some t&&listed.getD p.1 false):=by
       rw [Bool.eq_iff_iff,List.any_eq_true,List.any_eq_true]
       constructor
       ·rintro ⟨p,hp,h⟩
        simp only [Bool.and_eq_true,beq_iff_eq] at h
        have hpi:p.1≠i:=fun e=>by
         have:=(pickOps_mem.1 hp).2
         rw [e,hol] at this
         injection this with this
         rw [← this] at h
         exact hd1 h.1
        rw [hoth p.1 hpi] at h
        exact ⟨p,hp,by simp [h.1,h.2]⟩
       ·rintro ⟨p,hp,h⟩
        simp only [Bool.and_eq_true,beq_iff_eq] at h
        exact ⟨p,hp,by simp [h.1,getD_set_true h.2]⟩
      rw [this]
    have hdN:∀ t,o.dst=some t→t < B.N:=fun t e=>by
     have:(match o.dst with|some d=>decide (d < B.N)|none=>true)=true:=by
      simp only [opOk,Bool.and_eq_true] at hopk;exact hopk.2
     rw [e] at this
     simpa using this
    unfold wpOpIn
    simp only [ho]
    cases hw:Region.wanted o (yielded l.toArray a.tmps) with
    |true=>
      rw [if_pos rfl]
      refine (h1 hw).wpIn ?_
      rintro u w' ⟨E',rfl,hS',hext,hdp,hv⟩
      exact ih _ E' _ inv2 hT2 hcnt2 (hS'.congr hσ2 hfr2) ((hGT.ext hext hdp).putF (fun t e=>⟨hv,hdN t e⟩) htm2)
    |false=>
      rw [if_neg (by simp)]
      obtain ⟨rfl,hv⟩:=h2 hw
      have hσn:∀ n,(if n=nx+i then none else (if nx≤n then (if listed.getD (n - nx) false=true then lkB nbF n else none) else lkB st0 n))=(if nx≤n then (if listed.getD (n - nx) false=true then lkB nbF n else none) else lkB st0 n):=fun n=>by
       by_cases hn:n=nx+i
       ·subst hn;rw [if_pos rfl,if_pos (by omega),Nat.add_sub_cancel_left,hiun',if_neg (by simp)]
       ·rw [if_neg hn]
      exact ⟨fun _ _=>trivial,ih _ E _ inv2 hT2 hcnt2 (hS.congr (fun n=>(hσ2 n).trans (hσn n)) (fun n hn=>(hfr2 n hn).1)) (hGT.putF (fun t e=>⟨hv,hdN t e⟩) htm2)⟩
def sameK (T:Tab) (o:Option Oper) (tm:List (Nat×V)) (st:List (Nat×Blk)):Prop:=match o with
 |some o=>match o.op with
   | .store t x y=>match ty T t,ev (lkT tm) x with
     |some i,.ptr m off=>match lkB st m,vcells (ev (lkT tm) y) with
       |some (.cells t' cs),some vs=>vs.length=i.sz∧off+i.sz≤cs.length∧splice cs off vs=cs
       |_,_=>False
     |_,_=>False
   |_=>False
 |none=>False
theorem same_ok (hT:TabOk P T) {l:List Oper} {iw nx:Nat} {tm:List (Nat×V)} {st:List (Nat×Blk)} (hN:(l.all (opOk B.N))=true) (hst:∀ m,nx≤m→lkB st m=none) (h:sameK T l[iw]? tm st):
  ∀ ow,l[iw]? =some ow→∀ (tm':Nat→V) (σ:Nat→Option Blk) (fr:Nat→Prop) (E:Env) (a:Act),GamS P B σ fr E→GamT B tm' E a→(∀ n,n < nx→σ n=lkB st n)→(∀ t∈ow.looksAt l.toArray,tm' t=lkT tm t)→
   Upon P (fun u w'=>∃ E',E'.w=w'∧GamS P B σ fr E'∧Ext E E'∧E'.dp=E.dp) ((execOp a.eval ow).run P E.w):=by
 unfold sameK at h
 split at h<;>try exact h.elim
 rename_i o hol
 split at h<;>try exact h.elim
 rename_i t x y hop
 split at h<;>try exact h.elim
 rename_i i m off hi hx
 split at h<;>try exact h.elim
 rename_i t' cs vs hn hy
 obtain ⟨hsz,hoff,hK⟩:=h
 have hlt:m < nx:=by
  rcases Nat.lt_or_ge m nx with h|h
  ·exact h
  ·rw [hst m h] at hn;cases hn
 intro ow how tm' σ fr E a hS hGT hσ hag
 ·rw [hol] at how
  cases how
  have hok:=List.all_eq_true.1 hN o (List.mem_of_getElem? hol)
  have hm:=opOk_mem hok
  have hxo:x∈o.op.operands:=by simp [hop,Op.operands]
  have hyo:y∈o.op.operands:=by simp [hop,Op.operands]
  have rx:=ev_ok hGT x (hm x hxo)
  have ry:=ev_ok hGT y (hm y hyo)
  rw [ev_congr (ops:=l.toArray) hag hxo,hx] at rx
  rw [ev_congr (ops:=l.toArray) hag hyo] at ry
  simp only [RV] at rx
  obtain ⟨b,hb1,hb2⟩:=rx
  obtain ⟨us,g1,g2,g3⟩:=vcells_ok hy ry
  have hσm:σ m=some (.cells t' cs):=by rw [hσ m hlt,hn]
  obtain ⟨b',cur,k1,k2,k3,k4,k5⟩:=hS.st m _ hσm
  rw [hb1] at k1
  cases k1
  have hl1:=g2.len
  have hl2:=k3.len
  obtain ⟨f1,f2,f3,f4,f5⟩:=setCells_facts b us off E.w
  have hrun:=st_run (P:=P) (w:=E.w) (b:=b) (o:=off) (ty_ok hT hi) g1 g3 (by omega) (there_of k2 (by omega))
  have hW:=GamS.write (x:= .cells t' cs) (x':= .cells t' cs) (σ':=σ) (w':=E.w.setCells b off us) hS hσm (fun k=>by
   by_cases hkm:k=m
   ·rw [if_pos hkm,hkm,hσm]
   ·rw [if_neg hkm]) hb1 rfl (fun o' ho'=>(k5.2.2.2 o' ho').elim) f1 f2 f3 f4 f5 (fun E' hE' hext hok=>by
   subst hE'
   refine ⟨b,spliceU cur off us,hb1,setCells_splice k2 (by omega),(by rw [← hK];exact RVL.splice (RVL.mono hext _ _ k3) (RVL.mono hext _ _ g2)),fun u hu=>?_,hok⟩
   unfold spliceU at hu
   rcases List.mem_append.1 hu with hu|hu
   ·rcases List.mem_append.1 hu with hu|hu
    ·exact k4 u (List.mem_of_mem_take hu)
    ·exact g3 u hu
   ·exact k4 u (List.mem_of_mem_drop hu))
  have hr:(execOp a.eval o).run P E.w= .ok .skip (E.w.setCells b off us):=by simp [execOp,hop,hb2,hrun]
  rw [hr]
  exact ⟨_,rfl,hW.1,hW.2,rfl⟩
def sameL (T:Tab) (l:List Oper) (tm:List (Nat×V)) (st:List (Nat×Blk)):List Nat→Prop
 |[]=>True
 |i :: is=>sameK T l[i]? tm st∧sameL T l tm st is
theorem sameL_mem {T:Tab} {l:List Oper} {tm:List (Nat×V)} {st:List (Nat×Blk)}:∀ {is:List Nat},sameL T l tm st is→∀ i∈is,sameK T l[i]? tm st
 |i :: is,h,k,hk=>by
   rcases List.mem_cons.1 hk with rfl|hk
   ·exact h.1
   ·exact sameL_mem h.2 k hk
theorem aw_drawnI (iws tl:List Nat) {id:Nat} {ops:Array Oper} {s:St} {Q:AQ} (hT:TabOk P T) (hm:P.follows .mixedOrders=true) (hl:(ops.toList.all (opOk B.N))=true) (hok:drawOkI ops.toList (iws++headIdx 0 ops.toList) tl iws=true)
  (hh:(iws++headIdx 0 ops.toList).filter (fun i=> !iws.contains i)=headIdx 0 ops.toList)
  (h:hwp P T ops s.st s.nx (headOps 0 ops.toList) s.tm [] (fin2 (fun tm nb=>sameL T ops.toList tm s.st iws∧rwp P B T ops ((pickOps ops.toList tl).map (·.2)) ⟨tm,nb++s.st,s.nx+ops.toList.length⟩ (Q .normal)) ⟨⟩)):AW P B (.region id ops true) Q ⟨⟩ s:=fun E a hG=>by
 obtain ⟨l,rfl⟩:∃ l:List Oper,ops=l.toArray:=⟨ops.toList,by simp⟩
 simp only [List.toList_toArray] at hl hok hh h
 have hops0:∀ o∈l.toArray.toList,opOk B.N o=true:=fun o ho=>List.all_eq_true.1 hl o (by simpa using ho)
 have e1:=headOps_eq l []
 simp only [List.nil_append,List.length_nil] at e1
 have hc:((headOps 0 l).all fun p=>p.2.op.operands.toList.all (constOk B.N))=true:=List.all_eq_true.2 fun p hp=>by
  rw [← e1] at hp
  have:=List.all_eq_true.1 hl p.2 (List.mem_of_getElem? (pickOps_mem.1 hp).2)
  simp only [opOk,Bool.and_eq_true] at this
  exact this.1
 obtain ⟨tmF,nbF,hK,hrun⟩:=hwp_ok (B:=B) hT hops0 _ _ _ hc h
 have hG':=gam_drew hG
 have hst0:∀ n,s.nx≤n→lkB s.st n=none:=fun n hn=>hG.1.none_of_fresh hn
 unfold fin2 at hK
 obtain ⟨hK0,hK1⟩:=hK
 refine wpIn_region_any hm ?_
 have htail:((pickOps l tl).map (·.2)).all (opOk B.N)=true:=List.all_eq_true.2 fun o ho=>by
  obtain ⟨p,hp,rfl⟩:=List.mem_map.1 ho
  exact List.all_eq_true.1 hl p.2 (List.mem_of_getElem? (pickOps_mem.1 hp).2)
 rw [← e1,← hh] at hrun
 have:=wpAny_headsI (Q:=AQQ P B Q) hok hrun hl hst0 (fun m b hb=>hb) (fun iw hiw=>same_ok (B:=B) hT hl hst0 (sameL_mem hK0 iw hiw)) (fun E a hG=>rwp_list hT hops0 _ _ _ htail (hK1) (fun s' hs E a hG=>⟨E,s',rfl,hG,hs⟩) E a hG) (iws++headIdx 0 l).length (Array.replicate l.toArray.size false) ⟨E.η,E.F,{ E.w with drawn:=E.w.drawn+1 },E.dp⟩ a
  ⟨by simp,fun j oj _ hl=>(by rw [getD_replicate_false] at hl;cases hl)⟩ (fun t _=>getD_replicate_false _ _) (by
   rw [List.countP_eq_length];intro i _;rw [getD_replicate_false];rfl)
  (hG'.1.congr (fun n=>by
   rw [getD_replicate_false]
   by_cases hn:s.nx≤n
   ·rw [if_pos hn,if_neg (by simp),hst0 n hn]
   ·rw [if_neg hn]) (fun n hn=>hn.1))
  ⟨fun t=>by
   have:((pickOps l ((iws++headIdx 0 l).filter (fun i=> !iws.contains i))).any fun p=>p.2.dst==some t&&(Array.replicate l.toArray.size false).getD p.1 false)=false:=by
    rw [List.any_eq_false];intro p _;rw [getD_replicate_false];simp
   rw [this,if_neg (by simp)]
   exact hG'.2.tm t,hG'.2.defers,hG'.2.size⟩
 have hlen:(iws++headIdx 0 l).length+tl.length=l.length:=by
  simp only [drawOkI,Bool.and_eq_true,decide_eq_true_eq] at hok
  exact hok.1.2
 rw [hlen] at this
 simpa using this
def frzQ (n:Nat) (d0:List D) (es:List (List D)) (Q:AQ):AQ:=fun e s=>match e with
 | .normal=>∃ el sz d0V esV,lkB s.st n=some (.row el sz d0V esV)∧esV=es.map dV∧Q .normal ⟨frzS n (.ow n sz d0 es) s.tm,setB n (.tok el sz es.length) (frzM n (.ow n sz d0 es) s.st),s.nx⟩
 |e=>Q e s
theorem aw_frzQ (n:Nat) (d0:List D) (es:List (List D)) {c:Code} {Q:AQ} {s:St} (h:AW P B c (frzQ n d0 es Q) ⟨⟩ s):AW P B c Q ⟨⟩ s:=fun E a hG=>by
 refine Code.wpIn_mono ?_ (h E a hG)
 rintro x a' w' ⟨E1,s1,rfl,hG1,hQ⟩
 cases x
 case normal=>
  obtain ⟨el,sz,d0V,esV,hn,hes,hQ⟩:=hQ
  obtain ⟨E2,e2,hG2⟩:=gam_frzD hn hes hG1
  exact ⟨E2,_,e2,hG2,hQ⟩
 all_goals exact ⟨E1,s1,rfl,hG1,hQ⟩
end

theorem sub_pk0:Sub (.agg [cI 0,cI 0,.c (.slice none 0 0)]) (aPk default):=Sub.aggL ⟨.refl _,.refl _,.of _ _ rfl,trivial⟩
def atErr (n:NetP) (i:Int):Int:=if netChk n≠0 then 60 else if i < 0∨i≥n.queue.length then 1 else 0
def atP (n:NetP) (i:Int):Pk:=if atErr n i=0 then n.queue.getD i.toNat default else default
theorem nat_spec (n:NetP) (i:Int) (hn:okNet n):Spec Tryz.prog 82 [.agg (netD n),aI i] (.rt [aPk (atP n i),aI (atErr n i)]):=by
 obtain ⟨hq,ha⟩:=hn
 refine spec_of T_ok Tryz.func82 (by dsimp only [Tryz.f82]) rfl rfl (by simp) fun w F=>?_
 cases h1:(netChk n != 0) with
 |true=>
   repeat' (first |(with_reducible first |refine aw_seq ?_|refine two_t ?_)|((with_reducible refine And.intro ?_ ?_);(focus (rfl)))|((first |((with_reducible refine aw_regionA T_ok ?_ ?_);kernel_rfl)|((with_reducible refine callI_spec (ncheck_spec n (by omega) ha) ?_ ?_ ?_ ?_);(focus (with_unfolding_all rfl));kernel_rfl;kernel_rfl)|((with_reducible refine aw_condM ?_ ?_);kernel_rfl)|(with_reducible refine aw_ret ?_) );simp only [↓avP,avQ,avR,forall_const,implies_true,Nat.reduceEqDiff,Nat.reduceAdd,Nat.reduceLeDiff,reduceCtorEq,avS,netD_B,ty_52,ty_26,h1]))
   have he:atErr n i=60:=by unfold atErr;rw [if_pos (by simpa using h1)]
   rw [atP,he,if_neg (by decide)]
   exact ⟨sub_pk0,Sub.refl _⟩
 |false=>
 cases h2:decide (i < 0) with
 |true=>
   repeat' (first |(with_reducible first |refine aw_seq ?_|refine two_t ?_|refine two_f ?_)|((with_reducible refine And.intro ?_ ?_);(focus (rfl)))|((first |((with_reducible refine aw_regionA T_ok ?_ ?_);kernel_rfl)|((with_reducible refine callI_spec (ncheck_spec n (by omega) ha) ?_ ?_ ?_ ?_);(focus (with_unfolding_all rfl));kernel_rfl;kernel_rfl)|(with_reducible refine aw_skip ?_)|((with_reducible refine aw_condM ?_ ?_);kernel_rfl)|(with_reducible refine aw_ret ?_) );simp only [↓avP,avQ,avR,forall_const,implies_true,Nat.reduceEqDiff,Nat.reduceAdd,Nat.reduceLeDiff,reduceCtorEq,avS,netD_B,ty_52,ty_23,ty_26,h1,h2]))
   have he:atErr n i=1:=by unfold atErr;rw [if_neg (by simpa using h1),if_pos (.inl (of_decide_eq_true h2))]
   rw [atP,he,if_neg (by decide)]
   exact ⟨sub_pk0,Sub.refl _⟩
 |false=>
 cases h3:decide (i≥(n.queue.length:Int)) with
 |true=>
   repeat' (first |(with_reducible first |refine aw_seq ?_|refine two_t ?_|refine two_f ?_)|((with_reducible refine And.intro ?_ ?_);(focus (first |omega|rfl)))|((first |((with_reducible refine aw_regionA T_ok ?_ ?_);kernel_rfl)|((with_reducible refine callI_spec (ncheck_spec n (by omega) ha) ?_ ?_ ?_ ?_);(focus (with_unfolding_all rfl));kernel_rfl;kernel_rfl)|(with_reducible refine aw_skip ?_)|((with_reducible refine aw_condM ?_ ?_);kernel_rfl)|(with_reducible refine aw_ret ?_) );simp only [↓avP,avQ,avR,forall_const,implies_true,Nat.reduceEqDiff,Nat.reduceAdd,Nat.reduceLeDiff,reduceCtorEq,avS,netD_B,pkD_B,ty_52,ty_23,ty_26,h1,h2,h3]))
   have he:atErr n i=1:=by unfold atErr;rw [if_neg (by simpa using h1),if_pos (.inr (of_decide_eq_true h3))]
   rw [atP,he,if_neg (by decide)]
   exact ⟨sub_pk0,Sub.refl _⟩
 |false=>
   have h2':=of_decide_eq_false h2
   have h3':=of_decide_eq_false h3
   repeat' (first |(with_reducible first |refine aw_seq ?_|refine two_t ?_|refine two_f ?_)|((with_reducible refine And.intro ?_ ?_);(focus (first |omega|rfl)))|((first |((with_reducible refine aw_regionA T_ok ?_ ?_);kernel_rfl)|((with_reducible refine callI_spec (ncheck_spec n (by omega) ha) ?_ ?_ ?_ ?_);(focus (with_unfolding_all rfl));kernel_rfl;kernel_rfl)|(with_reducible refine aw_skip ?_)|((with_reducible refine aw_condM ?_ ?_);kernel_rfl)|(with_reducible refine aw_ret ?_) );simp only [↓avP,avQ,avR,forall_const,implies_true,Nat.reduceEqDiff,Nat.reduceAdd,Nat.reduceLeDiff,reduceCtorEq,avS,netD_B,pkD_B,ty_52,ty_23,ty_26,h1,h2,h3]))
   have he:atErr n i=0:=by unfold atErr;rw [if_neg (by simpa using h1),if_neg (by omega)]
   rw [atP,he,if_pos rfl]
   exact ⟨Sub.refl _,Sub.refl _⟩
def cutN (n:NetP) (i:Nat):NetP:=⟨n.queue.take i++n.queue.drop (i+1),n.apart⟩
theorem nwithout_spec (n:NetP) (i:Nat) (hn:okNet n) (hi:i < n.queue.length):Spec Tryz.prog 85 [.agg (netD n),aI i] (.r1 (.agg (netD (cutN n i)))):=by
 obtain ⟨hq,ha⟩:=hn
 refine spec_of T_ok Tryz.func85 (by dsimp only [Tryz.f85]) rfl rfl (by simp) fun w F=>?_
 repeat' (first |(with_reducible refine aw_seq ?_)|((with_reducible refine And.intro ?_ ?_);(focus (first |omega|rfl|grind)))|((first |((with_reducible refine aw_regionA T_ok ?_ ?_);kernel_rfl)|((with_reducible refine aw_drawnX [0,1,2,3,4,5,6,7,8,9,10,11] [12] T_ok ?_ ?_ ?_ ?_);kernel_rfl;kernel_rfl;(focus (decide+kernel)))|(with_reducible refine aw_ret ?_) );simp only [↓avP,avQ,avR,forall_const,implies_true,Nat.reduceEqDiff,Nat.reduceAdd,Nat.reduceLeDiff,Nat.reduceLT,reduceCtorEq,avS,netD_B,ty_52,ty_23,ty_26];try simp (disch:=omega) only [av_w,av_tp]))
 exact Sub.of_eq (by simp [netD,cutN])
theorem at_lt {n:NetP} {i:Int} (h:atErr n i=0):∃ k:Nat,i=k∧k < n.queue.length:=by
 unfold atErr at h
 split at h
 ·cases h
 ·split at h
  ·cases h
  ·exact ⟨i.toNat,by omega,by omega⟩
def loseN (n:NetP) (i:Int):NetP:=if atErr n i=0 then cutN n i.toNat else net0
theorem nlose_spec (n:NetP) (i:Int) (hn:okNet n):Spec Tryz.prog 52 [.agg (netD n),aI i] (.rt [.agg (netD (loseN n i)),aI (atErr n i)]):=by
 refine spec_of T_ok Tryz.func52 (by dsimp only [Tryz.f52]) rfl rfl (by simp) fun w F=>?_
 cases h1:(atErr n i != 0) with
 |true=>
   repeat' (first |(with_reducible first |refine aw_seq ?_|refine two_t ?_)|((with_reducible refine And.intro ?_ ?_);(focus (rfl)))|((first |((with_reducible refine aw_regionA T_ok ?_ ?_);kernel_rfl)|((with_reducible refine callI_spec (nat_spec n i hn) ?_ ?_ ?_ ?_);(focus (with_unfolding_all rfl));kernel_rfl;kernel_rfl)|((with_reducible refine aw_condM ?_ ?_);kernel_rfl)|(with_reducible refine aw_ret ?_) );simp only [↓avP,avQ,avR,forall_const,implies_true,Nat.reduceEqDiff,Nat.reduceAdd,Nat.reduceLeDiff,reduceCtorEq,avS,netD_B,pkD_B,ty_52,ty_26,h1]))
   rw [loseN,if_neg (by simpa using h1)]
   exact ⟨sub_net0,Sub.refl _⟩
 |false=>
   have h0:atErr n i=0:=by simpa using h1
   obtain ⟨k,rfl,hk⟩:=at_lt h0
   repeat' (first |(with_reducible first |refine aw_seq ?_|refine two_f ?_)|((with_reducible refine And.intro ?_ ?_);(focus (rfl)))|((first |((with_reducible refine aw_regionA T_ok ?_ ?_);kernel_rfl)|((with_reducible refine callI_spec (nat_spec n k hn) ?_ ?_ ?_ ?_);(focus (with_unfolding_all rfl));kernel_rfl;kernel_rfl)|((with_reducible refine callI_spec (nwithout_spec n k hn hk) ?_ ?_ ?_ ?_);(focus (with_unfolding_all rfl));kernel_rfl;kernel_rfl)|(with_reducible refine aw_skip ?_)|((with_reducible refine aw_condM ?_ ?_);kernel_rfl)|(with_reducible refine aw_ret ?_) );simp only [↓avP,avQ,avR,forall_const,implies_true,Nat.reduceEqDiff,Nat.reduceAdd,Nat.reduceLeDiff,reduceCtorEq,avS,netD_B,ty_26,h1]))
   rw [loseN,if_pos h0,Int.toNat_natCast,h0]
   exact ⟨Sub.refl _,Sub.refl _⟩
def delP (n:NetP) (i:Int):Pk:=if mm (atP n i).frm (atP n i).to_∈n.apart then default else atP n i
theorem ndeliver_spec (n:NetP) (i:Int) (hn:okNet n):Spec Tryz.prog 51 [.agg (netD n),aI i] (.rt [aPk (if atErr n i=0 then delP n i else default),.agg (netD (loseN n i)),aI (atErr n i)]):=by
 refine spec_of T_ok Tryz.func51 (by dsimp only [Tryz.f51]) rfl rfl (by simp) fun w F=>?_
 cases h1:(atErr n i != 0) with
 |true=>
   have h0:¬ atErr n i=0:=by simpa using h1
   have hp:atP n i=default:=by rw [atP,if_neg h0]
   repeat' (first |(with_reducible first |refine aw_seq ?_|refine two_t ?_)|((with_reducible refine And.intro ?_ ?_);(focus (rfl)))|((first |((with_reducible refine aw_regionA T_ok ?_ ?_);kernel_rfl)|((with_reducible refine aw_drawnI (id:=3) [3,4] [] T_ok ?_ ?_ ?_ ?_ ?_);kernel_rfl;kernel_rfl;(focus (decide+kernel));kernel_rfl)|((with_reducible refine callI_spec (nat_spec n i hn) ?_ ?_ ?_ ?_);(focus (with_unfolding_all rfl));kernel_rfl;kernel_rfl)|(with_reducible refine fin2_intro ?_)|((with_reducible refine aw_condM ?_ ?_);kernel_rfl)|(with_reducible refine aw_ret ?_) );simp only [↓avP,avQ,avR,forall_const,implies_true,Nat.reduceEqDiff,Nat.reduceAdd,Nat.reduceLeDiff,reduceCtorEq,↓sameK.eq_def,sameL,pickOps,avS,netD_B,pkD_B,ty_52,ty_26,h1]))
   rw [if_neg h0,hp,loseN,if_neg h0]
   exact ⟨Sub.refl _,sub_net0,Sub.refl _⟩
 |false=>
   have h0:atErr n i=0:=by simpa using h1
   obtain ⟨k,rfl,hk⟩:=at_lt h0
   obtain ⟨x,hx⟩:∃ x:Pr,x=mm (atP n k).frm (atP n k).to_:=⟨_,rfl⟩
   have hb:=nbetween_spec (atP n k).frm (atP n k).to_
   rw [← hx] at hb
   have hc:=prs_contains n.apart x hn.2
   cases h2:decide (x∈n.apart) with
   |true=>
     rw [h2] at hc
     repeat' (first |(with_reducible first |refine aw_seq ?_|refine two_t ?_|refine two_f ?_)|((with_reducible refine And.intro ?_ ?_);(focus (rfl)))|((first |((with_reducible refine aw_regionA T_ok ?_ ?_);kernel_rfl)|((with_reducible refine aw_drawnA T_ok ?_ ?_ ?_ ?_);kernel_rfl;kernel_rfl;(focus (decide+kernel)))|((with_reducible refine aw_drawnF T_ok ?_ ?_ ?_ ?_);kernel_rfl;kernel_rfl;(focus (decide+kernel)))|((with_reducible refine callI_spec (nat_spec n k hn) ?_ ?_ ?_ ?_);(focus (with_unfolding_all rfl));kernel_rfl;kernel_rfl)|((with_reducible refine callK_intro (nwithout_spec n k hn hk) ?_ ?_ ?_);(focus (with_unfolding_all rfl));kernel_rfl)|((with_reducible refine callK_intro (hb) ?_ ?_ ?_);(focus (with_unfolding_all rfl));kernel_rfl)|((with_reducible refine callK_intro (hc) ?_ ?_ ?_);(focus (with_unfolding_all rfl));kernel_rfl)|(with_reducible refine aw_skip ?_)|((with_reducible refine aw_condM ?_ ?_);kernel_rfl)|(with_reducible refine aw_ret ?_) );simp only [↓avP,avQ,avR,forall_const,implies_true,Nat.reduceEqDiff,Nat.reduceAdd,Nat.reduceLeDiff,reduceCtorEq,avS,netD_B,pkD_B,ty_3,ty_52,ty_24,ty_26,h1]))
     rw [if_pos h0,delP,← hx,if_pos (of_decide_eq_true h2),loseN,if_pos h0,h0]
     exact ⟨sub_pk0,Sub.refl _,Sub.refl _⟩
   |false=>
     rw [h2] at hc
     repeat' (first |(with_reducible first |refine aw_seq ?_|refine two_t ?_|refine two_f ?_)|((with_reducible refine And.intro ?_ ?_);(focus (rfl)))|((first |((with_reducible refine aw_regionA T_ok ?_ ?_);kernel_rfl)|((with_reducible refine aw_drawnA T_ok ?_ ?_ ?_ ?_);kernel_rfl;kernel_rfl;(focus (decide+kernel)))|((with_reducible refine aw_drawnF T_ok ?_ ?_ ?_ ?_);kernel_rfl;kernel_rfl;(focus (decide+kernel)))|((with_reducible refine callI_spec (nat_spec n k hn) ?_ ?_ ?_ ?_);(focus (with_unfolding_all rfl));kernel_rfl;kernel_rfl)|((with_reducible refine callK_intro (nwithout_spec n k hn hk) ?_ ?_ ?_);(focus (with_unfolding_all rfl));kernel_rfl)|((with_reducible refine callK_intro (hb) ?_ ?_ ?_);(focus (with_unfolding_all rfl));kernel_rfl)|((with_reducible refine callK_intro (hc) ?_ ?_ ?_);(focus (with_unfolding_all rfl));kernel_rfl)|(with_reducible refine aw_skip ?_)|((with_reducible refine aw_condM ?_ ?_);kernel_rfl)|(with_reducible refine aw_ret ?_) );simp only [↓avP,avQ,avR,forall_const,implies_true,Nat.reduceEqDiff,Nat.reduceAdd,Nat.reduceLeDiff,reduceCtorEq,avS,netD_B,pkD_B,ty_3,ty_52,ty_24,ty_26,h1]))
     rw [if_pos h0,delP,← hx,if_neg (of_decide_eq_false h2),loseN,if_pos h0,h0]
     exact ⟨Nat.le_refl 3,Sub.refl (aPk (atP n k)),Sub.refl _,Sub.refl _,trivial⟩
def repErr (n:NetP) (i:Int):Int:=if atErr n i≠0 then atErr n i else sendErr n (atP n i)
def repN (n:NetP) (i:Int):NetP:=if atErr n i≠0 then net0 else sendN n (atP n i)
theorem nrepeat_spec (n:NetP) (i:Int) (hn:okNet n):Spec Tryz.prog 53 [.agg (netD n),aI i] (.rt [.agg (netD (repN n i)),aI (repErr n i)]):=by
 refine spec_of T_ok Tryz.func53 (by dsimp only [Tryz.f53]) rfl rfl (by simp) fun w F=>?_
 cases h1:(atErr n i != 0) with
 |true=>
   have h0:atErr n i≠0:=by simpa using h1
   repeat' (first |(with_reducible first |refine aw_seq ?_|refine two_t ?_)|((with_reducible refine And.intro ?_ ?_);(focus (rfl)))|((first |((with_reducible refine aw_regionA T_ok ?_ ?_);kernel_rfl)|((with_reducible refine callI_spec (nat_spec n i hn) ?_ ?_ ?_ ?_);(focus (with_unfolding_all rfl));kernel_rfl;kernel_rfl)|((with_reducible refine aw_condM ?_ ?_);kernel_rfl)|(with_reducible refine aw_ret ?_) );simp only [↓avP,avQ,avR,forall_const,implies_true,Nat.reduceEqDiff,Nat.reduceAdd,Nat.reduceLeDiff,reduceCtorEq,avS,netD_B,pkD_B,ty_52,ty_26,h1]))
   rw [repN,repErr,if_pos h0,if_pos h0]
   exact ⟨sub_net0,Sub.refl _⟩
 |false=>
   have h0:¬ atErr n i≠0:=by simpa using h1
   repeat' (first |(with_reducible first |refine aw_seq ?_|refine two_f ?_)|((with_reducible refine And.intro ?_ ?_);(focus (rfl)))|((first |((with_reducible refine aw_regionA T_ok ?_ ?_);kernel_rfl)|((with_reducible refine callI_spec (nat_spec n i hn) ?_ ?_ ?_ ?_);(focus (with_unfolding_all rfl));kernel_rfl;kernel_rfl)|((with_reducible refine callI_spec (nsend_spec n (atP n i) hn) ?_ ?_ ?_ ?_);(focus (with_unfolding_all rfl));kernel_rfl;kernel_rfl)|(with_reducible refine aw_skip ?_)|((with_reducible refine aw_condM ?_ ?_);kernel_rfl)|(with_reducible refine aw_ret ?_) );simp only [↓avP,avQ,avR,forall_const,implies_true,Nat.reduceEqDiff,Nat.reduceAdd,Nat.reduceLeDiff,reduceCtorEq,avS,netD_B,pkD_B,ty_52,ty_26,h1]))
   rw [repN,repErr,if_neg h0,if_neg h0]
   exact ⟨Sub.refl _,Sub.refl _⟩
end Go.Proofs.YthidfoohhhkobaaGreat
