import Derived.Test.YthidfoohhhkobaaGreatG9
import Derived.Shelf.Spec.SlicesInsertGrow
namespace Go.Proofs.YthidfoohhhkobaaGreat
set_option linter.unusedSimpArgs false
set_option linter.unusedVariables false
open Go.RowKit
def peerD (l:List Hd):List D:=[.sl 42 (handD default) (l.map handD)]
structure RoomP where
 peers:List (List Hd)
 net:NetP
 deriving DecidableEq
def peer0:List D:=[.c (.slice none 0 0)]
def roomD (x:RoomP):List D:=[.sl 1 peer0 (x.peers.map peerD),.sl 3 (pkD default) (x.net.queue.map pkD),.sl 2 (prD default) (x.net.apart.map prD)]
theorem roomD_len (x:RoomP):(dV (roomD x)).length=3:=rfl
theorem roomD_take (x:RoomP):(dV (roomD x)).take 3=dV (roomD x):=rfl
theorem roomD_ln (x:RoomP):(roomD x).length=3:=rfl
theorem roomD_hd (x:RoomP):(dV (roomD x)).head? =some (.d (.sl 1 peer0 (x.peers.map peerD))):=rfl
theorem roomD_ic (x:RoomP):(dV (roomD x)).length=3:=rfl
theorem roomD_d1 (x:RoomP):(dV (roomD x)).drop 1=[.d (.sl 3 (pkD default) (x.net.queue.map pkD)),.d (.sl 2 (prD default) (x.net.apart.map prD))]:=rfl
theorem roomD_d2 (x:RoomP):(dV (roomD x)).drop 2=[.d (.sl 2 (prD default) (x.net.apart.map prD))]:=rfl
set_option linter.defProp false in
def roomD_B:=And.intro @roomD_len ( And.intro @roomD_take ( And.intro @roomD_hd ( And.intro @roomD_ln ( And.intro @roomD_ic ( And.intro @roomD_d1 (@roomD_d2))))))
abbrev aRoom (r:RoomP):A:= .agg (roomD r)
abbrev room0:RoomP:=⟨[],net0⟩
set_option maxRecDepth 100000
set_option maxHeartbeats 4000000
theorem sub_room0:Sub (.agg [.c (.slice none 0 0),.c (.slice none 0 0),.c (.slice none 0 0)]) (aRoom room0):=Sub.aggL ⟨.of _ _ rfl,.of _ _ rfl,.of _ _ rfl,trivial⟩
theorem sub_reps:∀ n,SubEs (List.replicate n peer0) (List.replicate n (peerD []))
 |0=>trivial
 |n+1=>⟨⟨.of _ _ rfl,trivial⟩,sub_reps n⟩
def newR (n:Int):RoomP:=if n < 1∨n > 24 then room0 else ⟨List.replicate n.toNat [],net0⟩
def newE (n:Int):Int:=if n < 1∨n > 24 then 1 else 0
theorem gnew_spec (n:Int):Spec Tryz.prog 8 [aI n] (.rt [aRoom (newR n),aI (newE n)]):=by
 refine spec_of T_ok Tryz.func8 (by dsimp only [Tryz.f8]) rfl rfl (by simp) fun w F=>?_
 by_cases h1:n < 1
 ·have hd1:decide (n < 1)=true:=decide_eq_true h1
  repeat' (first |(with_reducible first |refine aw_seq ?_|refine two_t ?_)|((with_reducible refine And.intro ?_ ?_);(focus (rfl)))|((first |((with_reducible refine aw_regionA T_ok ?_ ?_);kernel_rfl)|((with_reducible refine aw_condM ?_ ?_);kernel_rfl)|(with_reducible refine aw_ret ?_) );simp only [↓avP,avQ,avR,forall_const,implies_true,Nat.reduceEqDiff,Nat.reduceAdd,Nat.reduceLeDiff,reduceCtorEq,avS,ty_28,hd1]))
  rw [newR,newE,if_pos (.inl h1),if_pos (.inl h1)]
  exact ⟨sub_room0,Sub.refl _⟩
 have hd1:decide (n < 1)=false:=decide_eq_false h1
 by_cases h2:n > 24
 ·have hd2:decide (n > 24)=true:=decide_eq_true h2
  repeat' (first |(with_reducible first |refine aw_seq ?_|refine two_t ?_)|((with_reducible refine And.intro ?_ ?_);(focus (rfl)))|((first |((with_reducible refine aw_regionA T_ok ?_ ?_);kernel_rfl)|((with_reducible refine aw_condM ?_ ?_);kernel_rfl)|(with_reducible refine aw_ret ?_) );simp only [↓avP,avQ,avR,forall_const,implies_true,Nat.reduceEqDiff,Nat.reduceAdd,Nat.reduceLeDiff,reduceCtorEq,avS,ty_28,hd1,hd2]))
  rw [newR,newE,if_pos (.inr h2),if_pos (.inr h2)]
  exact ⟨sub_room0,Sub.refl _⟩
 have hd2:decide (n > 24)=false:=decide_eq_false h2
 have hn:¬ (n < 1∨n > 24):=by omega
 have hn0:0≤n:=by omega
 have hn1:n≤1048576:=by omega
 repeat' (first |(with_reducible first |refine aw_seq ?_|refine aw_stop (id:=3) ?_|refine two_f ?_)|((with_reducible refine And.intro ?_ ?_);(focus (rfl)))|((first |((with_reducible refine aw_regionA T_ok ?_ ?_);kernel_rfl)|(with_reducible refine aw_skip ?_)|((with_reducible refine aw_condM ?_ ?_);kernel_rfl) );simp only [↓avP,avQ,avR,forall_const,implies_true,Nat.reduceEqDiff,reduceCtorEq,avS,ty_28,hd1,hd2]))
 refine ⟨?_⟩
 refine aw_frzQ 2 peer0 (List.replicate n.toNat peer0) ?_
 repeat' (first |((with_reducible refine And.intro ?_ ?_);(focus (first |rfl|decide)))|((first |((with_reducible refine aw_drawnF T_ok ?_ ?_ ?_ ?_);kernel_rfl;kernel_rfl;(focus (decide+kernel)))|((with_reducible refine callK_intro (nnew_spec) ?_ ?_ ?_);(focus (with_unfolding_all rfl));kernel_rfl) );simp only [↓avP,avQ,avR,forall_const,implies_true,Nat.reduceEqDiff,Nat.reduceAdd,Nat.reduceLeDiff,Nat.reduceLT,reduceCtorEq,avS,netD_B,ty_28,ty_22,ty_56,hn0,hn1,frzQ.eq_def]))
 refine ⟨_,_,_,_,rfl,by rw [List.map_replicate];rfl,?_⟩
 simp only [frzS,frzM,frzK,frz1,frz2,frz_dV,List.map_cons,List.map_nil,setB,reduceIte,Nat.reduceEqDiff]
 repeat' (first |(with_reducible first |refine aw_seq ?_|refine aw_block ?_)|((first |((with_reducible refine aw_regionA T_ok ?_ ?_);kernel_rfl)|(with_reducible refine aw_ret ?_) );simp only [↓avP,avQ,avR,forall_const,implies_true,Nat.reduceEqDiff,Nat.reduceAdd,Nat.reduceLeDiff,reduceCtorEq,avS,netD_B,ty_28,ty_56,ty_49]))
 rw [newR,newE,if_neg hn,if_neg hn]
 refine ⟨Sub.aggL ⟨.sl ?_,.refl _,.refl _,trivial⟩,Sub.refl _⟩
 rw [List.map_replicate]
 exact sub_reps _
def knownAt (l:List Hd) (k:Nat):Bool:=formB (l.getD k default)&&(decide (k=0)||decide (cmpB (msg (l.getD (k - 1) default)) (msg (l.getD k default)) < 0))
def knownB (l:List Hd):Bool:=(List.range l.length).all (knownAt l)&&decide ((l.length:Int)≤4096)
theorem hOk_many {h:Hd} (hh:hOk h): -9223372036854775808≤h.many∧h.many≤9223372036854775807:=hh.2.2.2.2.2.2.1
theorem hOk_zero:hOk default:=by
 have z:Cd.i64R 0:=⟨by omega,by omega⟩
 exact ⟨z,z,z,z,z,z,z,z,z,z⟩
theorem hOk_getD {l:List Hd} (h:∀ x∈l,hOk x) (k:Nat):hOk (l.getD k default):=by
 rw [List.getD_eq_getElem?_getD]
 cases hk:l[k]? with
 |none=>exact hOk_zero
 |some x=>exact h x (List.mem_of_getElem? hk)
theorem getD_hands (l:List Hd) (k:Nat):(l.map handD).getD k (handD default)=handD (l.getD k default):=by
 simp [List.getD_eq_getElem?_getD,List.getElem?_map]
theorem gknown_spec (l:List Hd) (hl:l.length≤140737488351232) (ho:∀ x∈l,hOk x):Spec Tryz.prog 32 [.agg (peerD l)] (.r1 (aB (knownB l))):=by
 unfold peerD
 refine spec_of T_ok Tryz.func32 (by dsimp only [Tryz.f32]) rfl rfl (by simp) fun w F=>?_
 have hgood:(∀ i,i < l.length→knownAt l i=true)→knownB l=decide ((l.length:Int)≤4096):=fun h=>by
  have:(List.range l.length).all (knownAt l)=true:=List.all_eq_true.2 fun i hi=>h i (by simpa using hi)
  rw [knownB,this,Bool.true_and]
 repeat' (first |(with_reducible first |refine aw_seq ?_|refine aw_block ?_)|((first |((with_reducible refine aw_regionA T_ok ?_ ?_);kernel_rfl)|(with_reducible refine aw_ret ?_) );simp only [↓avP,avQ,avR,forall_const,implies_true,Nat.reduceEqDiff,Nat.reduceAdd,Nat.reduceLeDiff,reduceCtorEq,avS,netD_B,ty_28,ty_56,ty_49]))
 refine aw_loopI (fun k:Nat=>⟨[(1,.ptr 0 0),(2,vB false),(6,.d (.sl 42 (handD default) (l.map handD))),(7,vI l.length),(8,vI k)],[(0,.cells 56 [.d (.sl 42 (handD default) (l.map handD))])],1⟩) (fun k=>k≤l.length∧∀ i,i < k→knownAt l i=true) (fun k=>l.length - k) 0 ⟨Nat.zero_le _,fun i hi=>absurd hi (Nat.not_lt_zero i)⟩ (wk_of [(0,some 0)] rfl rfl ?_ ?_) ?_
 ·simp only [wkA,reduceIte,Nat.reduceEqDiff]
  (repeat' (first |rfl|exact subVs_d _ _))
 ·simp only [wkA,reduceIte,Nat.reduceEqDiff]
  (repeat' (first |rfl|exact subVs_d _ _))
 rintro k ⟨hk,h0⟩
 rcases Nat.lt_or_ge k l.length with hlt|hge
 ·have hd2:=ltd hlt
  have ht1:((k:Int) - 1).toNat=k - 1:=by omega
  have hg:=getD_hands l k
  have hg1:=getD_hands l (k - 1)
  have hbad:knownAt l k=false→knownB l=false:=fun h=>by
   rw [knownB,List.all_eq_false.2 ⟨k,by simpa using hlt,by rw [h];simp⟩,Bool.false_and]
  have hf:=gformed_spec (l.getD k default) (hOk_many (hOk_getD ho k))
  have hcm:=gcompare_spec (l.getD (k - 1) default) (l.getD k default) (hOk_getD ho _) (hOk_getD ho _)
  cases hv:formB (l.getD k default) with
  |false=>
    rw [hv] at hf
    repeat' (first |(with_reducible first |refine aw_seq ?_|refine two_t ?_)|((with_reducible refine And.intro ?_ ?_);(focus (first |omega|grind)))|(with_reducible refine aw_block ?_)|((first |((with_reducible refine aw_regionA T_ok ?_ ?_);kernel_rfl)|((with_reducible refine aw_drawnA T_ok ?_ ?_ ?_ ?_);kernel_rfl;kernel_rfl;(focus (decide+kernel)))|((with_reducible refine callK_intro (hf) ?_ ?_ ?_);(focus (((repeat' (first |exact ta_n|refine ta_a ?_));done)));kernel_rfl)|((with_reducible refine callK_intro (hcm) ?_ ?_ ?_);(focus (((repeat' (first |exact ta_n|refine ta_a ?_));done)));kernel_rfl)|(with_reducible refine aw_skip ?_)|((with_reducible refine aw_condM ?_ ?_);kernel_rfl)|(with_reducible refine aw_ret ?_) );simp only [↓avP,avQ,avR,forall_const,implies_true,Nat.reduceEqDiff,Nat.reduceAdd,Nat.reduceLeDiff,reduceCtorEq,handS,hd_dr,↓zH_one,zH_map,ty_H,ty_56,ty_49,hd2,hg];try simp (disch:=omega) only [av_w,av_t1]))
    exact Sub.of_eq (congrArg aB (hbad (by unfold knownAt;rw [hv];rfl)).symm)
  |true=>
  rw [hv] at hf
  have hnext:(decide (k=0)||decide (cmpB (msg (l.getD (k - 1) default)) (msg (l.getD k default)) < 0))=true→∀ i,i < k+1→knownAt l i=true:=fun h i hi=>by
   rcases Nat.lt_succ_iff_lt_or_eq.1 hi with h'|rfl
   ·exact h0 i h'
   ·unfold knownAt;rw [hv,h];rfl
  by_cases hk0:k=0
  ·have hz:decide ((k:Int) > 0)=false:=decide_eq_false (by omega)
   repeat' (first |(with_reducible first |refine aw_seq ?_|refine two_t ?_|refine two_f ?_)|((with_reducible refine And.intro ?_ ?_);(focus (first |omega|grind)))|(with_reducible refine aw_block ?_)|((first |((with_reducible refine aw_regionA T_ok ?_ ?_);kernel_rfl)|((with_reducible refine aw_drawnA T_ok ?_ ?_ ?_ ?_);kernel_rfl;kernel_rfl;(focus (decide+kernel)))|((with_reducible refine callK_intro (hf) ?_ ?_ ?_);(focus (((repeat' (first |exact ta_n|refine ta_a ?_));done)));kernel_rfl)|((with_reducible refine callK_intro (hcm) ?_ ?_ ?_);(focus (((repeat' (first |exact ta_n|refine ta_a ?_));done)));kernel_rfl)|(with_reducible refine aw_skip ?_)|((with_reducible refine aw_condM ?_ ?_);kernel_rfl) );simp only [↓avP,avQ,avR,forall_const,implies_true,Nat.reduceEqDiff,Nat.reduceAdd,Nat.reduceLeDiff,reduceCtorEq,handS,hd_dr,↓zH_one,zH_map,ty_H,ty_56,ty_49,hd2,hg,hz];try simp (disch:=omega) only [av_w,av_t1]))
   refine ⟨k+1,⟨by omega,hnext (by rw [decide_eq_true hk0];rfl)⟩,by dsimp only;omega,wk_of [(0,some 0)] rfl rfl ?_ ?_⟩
   ·simp only [wkA,reduceIte,Nat.reduceEqDiff]
    (repeat' (first |rfl|exact subVs_d _ _))
   ·simp only [wkA,reduceIte,Nat.reduceEqDiff]
    (repeat' (first |rfl|exact subVs_d _ _))
  ·have hz:decide ((k:Int) > 0)=true:=decide_eq_true (by omega)
   cases hc2:decide (cmpB (msg (l.getD (k - 1) default)) (msg (l.getD k default))≥0) with
   |true=>
     repeat' (first |(with_reducible first |refine aw_seq ?_|refine two_t ?_|refine two_f ?_)|((with_reducible refine And.intro ?_ ?_);(focus (omega)))|(with_reducible refine aw_block ?_)|((first |((with_reducible refine aw_regionA T_ok ?_ ?_);kernel_rfl)|((with_reducible refine aw_drawnA T_ok ?_ ?_ ?_ ?_);kernel_rfl;kernel_rfl;(focus (decide+kernel)))|((with_reducible refine callK_intro (hf) ?_ ?_ ?_);(focus (((repeat' (first |exact ta_n|refine ta_a ?_));done)));kernel_rfl)|((with_reducible refine callK_intro (hcm) ?_ ?_ ?_);(focus (((repeat' (first |exact ta_n|refine ta_a ?_));done)));kernel_rfl)|(with_reducible refine aw_skip ?_)|((with_reducible refine aw_condM ?_ ?_);kernel_rfl)|(with_reducible refine aw_ret ?_) );simp only [↓avP,avQ,avR,forall_const,implies_true,Nat.reduceEqDiff,Nat.reduceAdd,Nat.reduceLeDiff,reduceCtorEq,handS,hd_dr,↓zH_one,zH_map,ty_H,ty_56,ty_49,hd2,hg,hz,hc2];try simp (disch:=omega) only [av_w,av_t1]))
     exact Sub.of_eq (congrArg aB (hbad (by unfold knownAt;rw [hv,decide_eq_false hk0,decide_eq_false (by have:=of_decide_eq_true hc2;omega)];rfl)).symm)
   |false=>
     repeat' (first |(with_reducible first |refine aw_seq ?_|refine two_t ?_|refine two_f ?_)|((with_reducible refine And.intro ?_ ?_);(focus (omega)))|(with_reducible refine aw_block ?_)|((first |((with_reducible refine aw_regionA T_ok ?_ ?_);kernel_rfl)|((with_reducible refine aw_drawnA T_ok ?_ ?_ ?_ ?_);kernel_rfl;kernel_rfl;(focus (decide+kernel)))|((with_reducible refine callK_intro (hf) ?_ ?_ ?_);(focus (((repeat' (first |exact ta_n|refine ta_a ?_));done)));kernel_rfl)|((with_reducible refine callK_intro (hcm) ?_ ?_ ?_);(focus (((repeat' (first |exact ta_n|refine ta_a ?_));done)));kernel_rfl)|(with_reducible refine aw_skip ?_)|((with_reducible refine aw_condM ?_ ?_);kernel_rfl)|(with_reducible refine aw_ret ?_) );simp only [↓avP,avQ,avR,forall_const,implies_true,Nat.reduceEqDiff,Nat.reduceAdd,Nat.reduceLeDiff,reduceCtorEq,handS,hd_dr,↓zH_one,zH_map,ty_H,ty_56,ty_49,hd2,hg,hz,hc2];try simp (disch:=omega) only [av_w,av_t1]))
     refine ⟨k+1,⟨by omega,hnext (by rw [decide_eq_true (show cmpB (msg (l.getD (k - 1) default)) (msg (l.getD k default)) < 0 by have:=of_decide_eq_false hc2;omega),Bool.or_true])⟩,by dsimp only;omega,wk_of [(0,some 0)] rfl rfl ?_ ?_⟩
     ·simp only [wkA,reduceIte,Nat.reduceEqDiff]
      (repeat' (first |rfl|exact subVs_d _ _))
     ·simp only [wkA,reduceIte,Nat.reduceEqDiff]
      (repeat' (first |rfl|exact subVs_d _ _))
 ·obtain rfl:k=l.length:=by omega
  have hd2:=ged (Nat.le_refl l.length)
  repeat' (first |(with_reducible first |refine aw_seq ?_|refine two_f ?_)|((first |((with_reducible refine aw_regionA T_ok ?_ ?_);kernel_rfl)|(with_reducible refine aw_exit ?_)|((with_reducible refine aw_condM ?_ ?_);kernel_rfl)|(with_reducible refine aw_ret ?_) );simp only [↓avP,avQ,avR,forall_const,implies_true,Nat.reduceEqDiff,reduceCtorEq,avS,ty_56,ty_49,hd2]))
  exact Sub.of_eq (congrArg aB (hgood h0).symm)
def okRoom (r:RoomP):Prop:=r.peers.length≤140737488351232∧(∀ l∈r.peers,l.length≤140737488351232∧∀ x∈l,hOk x)∧okNet r.net∧∀ p∈r.net.queue,p.data.length≤1000000
def pkB (n:Nat) (p:Pk):Bool:=(readH p.data).2&& !decide ((if p.to_ > p.frm then p.to_ else p.frm)≥(n:Int))
def roomChk (r:RoomP):Int:=if r.peers.length < 1∨r.peers.length > 24∨netChk r.net≠0 then 540 else if r.peers.all knownB&&r.net.queue.all (pkB r.peers.length) then 0 else 540
theorem getD_peers (l:List (List Hd)) (k:Nat) (hk:k < l.length):(l.map peerD).getD k peer0=[.sl 42 (handD default) ((l.getD k []).map handD)]:=by
 simp [peerD,List.getD_eq_getElem?_getD,List.getElem?_map,List.getElem?_eq_getElem hk]
theorem gcheck_spec (r:RoomP) (ho:okRoom r):Spec Tryz.prog 10 [aRoom r] (.r1 (aI (roomChk r))):=by
 obtain ⟨hp,hk,hn,hq⟩:=ho
 have hnc:=ncheck_spec r.net (by have:=hn.1;omega) hn.2
 have hq1:r.net.queue.length≤1048576:=hn.1
 rw [netD] at hnc
 refine spec_of T_ok Tryz.func10 (by dsimp only [Tryz.f10]) rfl rfl (by simp) fun w F=>?_
 by_cases h1:r.peers.length < 1
 ·have hd1:decide ((r.peers.length:Int) < 1)=true:=decide_eq_true (by omega)
  repeat' (first |(with_reducible first |refine aw_seq ?_|refine two_t ?_)|((first |((with_reducible refine aw_regionA T_ok ?_ ?_);kernel_rfl)|((with_reducible refine callK_intro (hnc) ?_ ?_ ?_);(focus (with_unfolding_all rfl));kernel_rfl)|((with_reducible refine aw_condM ?_ ?_);kernel_rfl)|(with_reducible refine aw_ret ?_) );simp only [↓avP,avQ,avR,forall_const,implies_true,Nat.reduceEqDiff,Nat.reduceAdd,Nat.reduceLeDiff,reduceCtorEq,avS,roomD_B,ty_28,ty_22,ty_26,hd1]))
  exact Sub.of_eq (congrArg aI (by rw [roomChk,if_pos (.inl h1)]))
 have hd1:decide ((r.peers.length:Int) < 1)=false:=decide_eq_false (by omega)
 by_cases h2:r.peers.length > 24
 ·have hd2:decide ((r.peers.length:Int) > 24)=true:=decide_eq_true (by omega)
  repeat' (first |(with_reducible first |refine aw_seq ?_|refine two_t ?_)|((first |((with_reducible refine aw_regionA T_ok ?_ ?_);kernel_rfl)|((with_reducible refine callK_intro (hnc) ?_ ?_ ?_);(focus (with_unfolding_all rfl));kernel_rfl)|((with_reducible refine aw_condM ?_ ?_);kernel_rfl)|(with_reducible refine aw_ret ?_) );simp only [↓avP,avQ,avR,forall_const,implies_true,Nat.reduceEqDiff,Nat.reduceAdd,Nat.reduceLeDiff,reduceCtorEq,avS,roomD_B,ty_28,ty_22,ty_26,hd1,hd2]))
  exact Sub.of_eq (congrArg aI (by rw [roomChk,if_pos (.inr (.inl h2))]))
 have hd2:decide ((r.peers.length:Int) > 24)=false:=decide_eq_false (by omega)
 cases h3:(netChk r.net != 0) with
 |true=>
   repeat' (first |(with_reducible first |refine aw_seq ?_|refine two_t ?_|refine two_f ?_|refine aw_block ?_)|((first |((with_reducible refine aw_regionA T_ok ?_ ?_);kernel_rfl)|((with_reducible refine callK_intro (hnc) ?_ ?_ ?_);(focus (with_unfolding_all rfl));kernel_rfl)|(with_reducible refine aw_skip ?_)|((with_reducible refine aw_condM ?_ ?_);kernel_rfl)|(with_reducible refine aw_ret ?_) );simp only [↓avP,avQ,avR,forall_const,implies_true,Nat.reduceEqDiff,Nat.reduceAdd,Nat.reduceLeDiff,reduceCtorEq,avS,roomD_B,ty_28,ty_22,ty_26,hd1,hd2,h3]))
   exact Sub.of_eq (congrArg aI (by rw [roomChk,if_pos (.inr (.inr (by simpa using h3)))]))
 |false=>
 have hno:¬ (r.peers.length < 1∨r.peers.length > 24∨netChk r.net≠0):=by
  have:netChk r.net=0:=by simpa using h3
  omega
 repeat' (first |(with_reducible first |refine aw_seq ?_|refine two_t ?_|refine two_f ?_|refine aw_block ?_)|((first |((with_reducible refine aw_regionA T_ok ?_ ?_);kernel_rfl)|((with_reducible refine callK_intro (hnc) ?_ ?_ ?_);(focus (with_unfolding_all rfl));kernel_rfl)|(with_reducible refine aw_skip ?_)|((with_reducible refine aw_condM ?_ ?_);kernel_rfl)|(with_reducible refine aw_ret ?_) );simp only [↓avP,avQ,avR,forall_const,implies_true,Nat.reduceEqDiff,Nat.reduceAdd,Nat.reduceLeDiff,reduceCtorEq,avS,roomD_B,ty_28,ty_22,ty_26,hd1,hd2,h3]))
 refine aw_loopI (fun k:Nat=>⟨[(1,.ptr 0 0),(2,vI 0),(26,.d (.sl 1 peer0 (r.peers.map peerD))),(27,vI r.peers.length),(28,vI k)],[(0,.cells 28 (dV (roomD r)))],1⟩) (fun k=>k≤r.peers.length∧∀ i,i < k→knownB (r.peers.getD i [])=true) (fun k=>r.peers.length - k) 0 ⟨Nat.zero_le _,fun i hi=>absurd hi (Nat.not_lt_zero i)⟩ (wk_of [(0,some 0)] rfl rfl ?_ ?_) ?_
 ·simp only [wkA,reduceIte,Nat.reduceEqDiff]
  (repeat' (first |rfl|exact subVs_d _ _))
 ·simp only [wkA,reduceIte,Nat.reduceEqDiff]
  (repeat' (first |rfl|exact subVs_d _ _))
 rintro k ⟨hkl,h0⟩
 rcases Nat.lt_or_ge k r.peers.length with hlt|hge
 ·have hd4:=ltd hlt
  have hg:=getD_peers r.peers k hlt
  have hmem:r.peers.getD k []∈r.peers:=by
   rw [List.getD_eq_getElem?_getD,List.getElem?_eq_getElem hlt];exact List.getElem_mem hlt
  have hkn:=gknown_spec (r.peers.getD k []) (hk _ hmem).1 (hk _ hmem).2
  cases hv:knownB (r.peers.getD k []) with
  |false=>
    rw [hv] at hkn
    unfold peerD at hkn
    repeat' (first |(with_reducible first |refine aw_seq ?_|refine two_t ?_|refine two_f ?_)|((with_reducible refine And.intro ?_ ?_);(focus (first |omega|rfl)))|(with_reducible refine aw_block ?_)|((first |((with_reducible refine aw_regionA T_ok ?_ ?_);kernel_rfl)|((with_reducible refine callI_spec (hkn) ?_ ?_ ?_ ?_);(focus (with_unfolding_all rfl));kernel_rfl;kernel_rfl)|(with_reducible refine aw_skip ?_)|((with_reducible refine aw_condM ?_ ?_);kernel_rfl)|(with_reducible refine aw_ret ?_) );simp only [↓avP,avQ,avR,forall_const,implies_true,Nat.reduceEqDiff,Nat.reduceAdd,Nat.reduceLeDiff,reduceCtorEq,ty_22,ty_56,hd4,hg];try simp (disch:=omega) only [avW]))
    refine Sub.of_eq (congrArg aI ?_)
    rw [roomChk,if_neg hno,List.all_eq_false.2 ⟨_,hmem,by rw [hv];simp⟩,Bool.false_and,if_neg (by simp)]
  |true=>
    rw [hv] at hkn
    unfold peerD at hkn
    repeat' (first |(with_reducible first |refine aw_seq ?_|refine two_t ?_|refine two_f ?_)|((with_reducible refine And.intro ?_ ?_);(focus (first |omega|rfl)))|(with_reducible refine aw_block ?_)|((first |((with_reducible refine aw_regionA T_ok ?_ ?_);kernel_rfl)|((with_reducible refine callI_spec (hkn) ?_ ?_ ?_ ?_);(focus (with_unfolding_all rfl));kernel_rfl;kernel_rfl)|(with_reducible refine aw_skip ?_)|((with_reducible refine aw_condM ?_ ?_);kernel_rfl)|(with_reducible refine aw_ret ?_) );simp only [↓avP,avQ,avR,forall_const,implies_true,Nat.reduceEqDiff,Nat.reduceAdd,Nat.reduceLeDiff,reduceCtorEq,ty_22,ty_56,hd4,hg];try simp (disch:=omega) only [avW]))
    refine ⟨k+1,⟨by omega,fun i hi=>?_⟩,by dsimp only;omega,wk_of [(0,some 0)] rfl rfl ?_ ?_⟩
    ·rcases Nat.lt_succ_iff_lt_or_eq.1 hi with h'|rfl
     ·exact h0 i h'
     ·exact hv
    ·simp only [wkA,reduceIte,Nat.reduceEqDiff]
     (repeat' (first |rfl|exact subVs_d _ _))
    ·simp only [wkA,reduceIte,Nat.reduceEqDiff]
     (repeat' (first |rfl|exact subVs_d _ _))
 obtain rfl:k=r.peers.length:=by omega
 have hall:r.peers.all knownB=true:=List.all_eq_true.2 fun l hl=>by
  obtain ⟨i,hi,rfl⟩:=List.mem_iff_getElem.1 hl
  have:=h0 i hi
  rwa [List.getD_eq_getElem?_getD,List.getElem?_eq_getElem hi] at this
 have hd4:=ged (Nat.le_refl r.peers.length)
 repeat' (first |(with_reducible first |refine aw_seq ?_|refine two_f ?_|refine aw_block ?_)|((first |((with_reducible refine aw_regionA T_ok ?_ ?_);kernel_rfl)|(with_reducible refine aw_exit ?_)|((with_reducible refine aw_condM ?_ ?_);kernel_rfl) );simp only [↓avP,avQ,avR,forall_const,implies_true,Nat.reduceEqDiff,reduceCtorEq,avS,roomD_B,ty_28,ty_26,ty_23,hd4]))
 refine aw_loopI (fun k:Nat=>⟨[(1,.ptr 0 0),(2,vI 0),(38,.d (.sl 3 (pkD default) (r.net.queue.map pkD))),(39,vI r.net.queue.length),(40,vI k)],[(0,.cells 28 (dV (roomD r)))],1⟩) (fun k=>k≤r.net.queue.length∧∀ i,i < k→pkB r.peers.length (r.net.queue.getD i default)=true) (fun k=>r.net.queue.length - k) 0 ⟨Nat.zero_le _,fun i hi=>absurd hi (Nat.not_lt_zero i)⟩ (wk_of [(0,some 0)] rfl rfl ?_ ?_) ?_
 ·simp only [wkA,reduceIte,Nat.reduceEqDiff]
  (repeat' (first |rfl|exact subVs_d _ _))
 ·simp only [wkA,reduceIte,Nat.reduceEqDiff]
  (repeat' (first |rfl|exact subVs_d _ _))
 rintro k ⟨hkl2,h02⟩
 rcases Nat.lt_or_ge k r.net.queue.length with hlt|hge
 ·have hd5:=ltd hlt
  have hmem:r.net.queue.getD k default∈r.net.queue:=by
   rw [List.getD_eq_getElem?_getD,List.getElem?_eq_getElem hlt];exact List.getElem_mem hlt
  have hrd:=gread_spec (r.net.queue.getD k default).data (hq _ hmem)
  have hbad:pkB r.peers.length (r.net.queue.getD k default)=false→roomChk r=540:=fun h=>by
   rw [roomChk,if_neg hno,List.all_eq_false.2 ⟨_,hmem,by rw [h];simp⟩,Bool.and_false,if_neg (by simp)]
  cases hv:(readH (r.net.queue.getD k default).data).2 with
  |false=>
    rw [hv] at hrd
    repeat' (first |(with_reducible first |refine aw_seq ?_|refine two_t ?_)|((with_reducible refine And.intro ?_ ?_);(focus (first |omega|rfl)))|(with_reducible refine aw_block ?_)|((first |((with_reducible refine aw_regionA T_ok ?_ ?_);kernel_rfl)|((with_reducible refine callI_spec (hrd) ?_ ?_ ?_ ?_);(focus (with_unfolding_all rfl));kernel_rfl;kernel_rfl)|(with_reducible refine aw_skip ?_)|((with_reducible refine aw_condM ?_ ?_);kernel_rfl)|(with_reducible refine aw_ret ?_) );simp only [↓avP,avQ,avR,forall_const,implies_true,Nat.reduceEqDiff,Nat.reduceAdd,Nat.reduceLeDiff,reduceCtorEq,roomD_B,pkD_B,handS,hd_dr,↓zH_one,zH_map,ty_H,ty_3,ty_28,ty_22,ty_23,ty_52,ty_50,hd5]))
    exact Sub.of_eq (congrArg aI (hbad (by rw [pkB,hv];rfl)).symm)
  |true=>
    rw [hv] at hrd
    cases hm:decide ((if (r.net.queue.getD k default).to_ > (r.net.queue.getD k default).frm then (r.net.queue.getD k default).to_ else (r.net.queue.getD k default).frm)≥(r.peers.length:Int)) with
    |true=>
      repeat' (first |(with_reducible first |refine aw_seq ?_|refine two_t ?_|refine two_f ?_)|((with_reducible refine And.intro ?_ ?_);(focus (first |omega|rfl)))|(with_reducible refine aw_block ?_)|((first |((with_reducible refine aw_regionA T_ok ?_ ?_);kernel_rfl)|((with_reducible refine callI_spec (hrd) ?_ ?_ ?_ ?_);(focus (with_unfolding_all rfl));kernel_rfl;kernel_rfl)|(with_reducible refine aw_skip ?_)|((with_reducible refine aw_condM ?_ ?_);kernel_rfl)|(with_reducible refine aw_ret ?_) );simp only [↓avP,avQ,avR,forall_const,implies_true,Nat.reduceEqDiff,Nat.reduceAdd,Nat.reduceLeDiff,reduceCtorEq,roomD_B,pkD_B,handS,hd_dr,↓zH_one,zH_map,ty_H,ty_3,ty_28,ty_22,ty_23,ty_52,ty_50,hd5,hm];try simp (disch:=omega) only [avW]))
      exact Sub.of_eq (congrArg aI (hbad (by rw [pkB,hv,hm];rfl)).symm)
    |false=>
      repeat' (first |(with_reducible first |refine aw_seq ?_|refine two_t ?_|refine two_f ?_)|((with_reducible refine And.intro ?_ ?_);(focus (first |omega|rfl)))|(with_reducible refine aw_block ?_)|((first |((with_reducible refine aw_regionA T_ok ?_ ?_);kernel_rfl)|((with_reducible refine callI_spec (hrd) ?_ ?_ ?_ ?_);(focus (with_unfolding_all rfl));kernel_rfl;kernel_rfl)|(with_reducible refine aw_skip ?_)|((with_reducible refine aw_condM ?_ ?_);kernel_rfl)|(with_reducible refine aw_ret ?_) );simp only [↓avP,avQ,avR,forall_const,implies_true,Nat.reduceEqDiff,Nat.reduceAdd,Nat.reduceLeDiff,reduceCtorEq,roomD_B,pkD_B,handS,hd_dr,↓zH_one,zH_map,ty_H,ty_3,ty_28,ty_22,ty_23,ty_52,ty_50,hd5,hm];try simp (disch:=omega) only [avW]))
      refine ⟨k+1,⟨by omega,fun i hi=>?_⟩,by dsimp only;omega,wk_of [(0,some 0)] rfl rfl ?_ ?_⟩
      ·rcases Nat.lt_succ_iff_lt_or_eq.1 hi with h'|rfl
       ·exact h02 i h'
       ·rw [pkB,hv,hm];rfl
      ·simp only [wkA,reduceIte,Nat.reduceEqDiff]
       (repeat' (first |rfl|exact subVs_d _ _))
      ·simp only [wkA,reduceIte,Nat.reduceEqDiff]
       (repeat' (first |rfl|exact subVs_d _ _))
 ·obtain rfl:k=r.net.queue.length:=by omega
  have hd5:=ged (Nat.le_refl r.net.queue.length)
  repeat' (first |(with_reducible first |refine aw_seq ?_|refine two_f ?_)|((first |((with_reducible refine aw_regionA T_ok ?_ ?_);kernel_rfl)|(with_reducible refine aw_exit ?_)|((with_reducible refine aw_condM ?_ ?_);kernel_rfl)|(with_reducible refine aw_ret ?_) );simp only [↓avP,avQ,avR,forall_const,implies_true,Nat.reduceEqDiff,avS,hd5]))
  refine Sub.of_eq (congrArg aI ?_)
  have hall2:r.net.queue.all (pkB r.peers.length)=true:=List.all_eq_true.2 fun l hl=>by
   obtain ⟨i,hi,rfl⟩:=List.mem_iff_getElem.1 hl
   have:=h02 i hi
   rwa [List.getD_eq_getElem?_getD,List.getElem?_eq_getElem hi] at this
  rw [roomChk,if_neg hno,hall,hall2];rfl

open Go.RowKit Go.Lib
theorem elemP:Elem Tryz.prog 22 56 (.agg #[.slice none 0 0]) 1 24:=
 ⟨Tryz.underlying22,by kernel_rfl,by rfl,by decide,fun _ h=>absurd h (by decide)⟩
theorem elemH:Elem Tryz.prog 49 36 zHandV 42 112:=
 ⟨Tryz.underlying49,by kernel_rfl,by rfl,by decide,by intro h;cases h⟩
theorem rr_source {F:Ft} {w:World} {sz:Nat} {es:List (List D)} {ad:Addr} (h:RR F w sz (some ad) es 0):∃ news,RDL F w es.flatten news∧news.length=es.length * sz∧(∀ u∈news,u.oneCell'=true)∧(∀ x∈es,x.length=sz)∧∀ j u,news[j]? =some u→w.cell? (ad.add j)=some u:=by
 cases es with
 |nil=>exact ⟨[],by simp [RDL],by simp,by simp,by simp,by simp⟩
 |cons e es=>
   have h':=h
   simp only [RR] at h'
   obtain ⟨⟨b,o,us,e1,_⟩,_⟩:=h'
   cases e1
   obtain ⟨us,h1,h2,h3,h4,h5⟩:=h.cells
   refine ⟨us,h1,h2,h3,h4,fun j u hj=>?_⟩
   have:=(h5 j u hj).2
   rw [Nat.add_zero] at this
   rw [Addr.add_lit]
   exact this
theorem run_eql_nil {P:Program} {t e:TypeId} (ht:P.underlying t=some (.slice e)) (a:Option Addr) (n c:Nat) (w:World):(binOp .eql t (.slice a n c) (.slice none 0 0)).run P w= .ok (.bool a.isNone) w:=by
 have he:(Op.equal t (.slice a n c) (.slice none 0 0)).run P w= .ok a.isNone w:=by
  have gen:∀ d,(Op.equalIn (d+1) t (.slice a n c) (.slice none 0 0)).run P w= .ok a.isNone w:=fun d=>by cases a<;>simp [Op.equalIn,run_underlying ht]
  exact gen _
 simp [binOp,he]
set_option maxRecDepth 100000 in
set_option maxHeartbeats 4000000 in
theorem cloneP_spec (es:List (List D)) (dd0 d0:List D) (hes:es.length≤1048576):SpecO Tryz.prog 23 [.one (.sl 1 dd0 es)] 56 1 d0 es:=by
 intro F w us hF ha
 simp only [RAL] at ha
 obtain ⟨u,r,rfl,hu,rfl⟩:=ha
 simp only [RA,RD] at hu
 obtain ⟨a,cap,rfl,hcap,hmax,hrr⟩:=hu
 cases a with
 |none=>
   have hn:=hrr.none_nil
   subst hn
   go_enter Tryz.func23,Tryz.ntmps23
   go_wp2_with (simp only [run_eql_nil Tryz.underlying22])
   go_ret
   exact ⟨_,[],rfl,Below.refl _ _,World.ownsRow_nil _ _ _ _,by simp [RDL],by simp,by simp,by simp,fun b h=>by cases h⟩
 |some ad=>
   obtain ⟨news,n1,n2,n3,n4,n5⟩:=rr_source hrr
   have hone:∀ W:World,(∀ x u,w.cell? x=some u→W.cell? x=some u)→Source Tryz.prog 22 22 1 W (.slice (some ad) es.length cap) es.length news:=fun W hW=>
    Source.cells ad _ cap news rfl n2 (fun j u hj=>hW _ _ (n5 j u hj)) n3
   clear n5
   go_enter Tryz.func23,Tryz.ntmps23
   go_wp2_with (first
    |simp only [run_eql_nil Tryz.underlying22]
    |(at_builtin;refine wpList_app rfl _ _ rfl elemP w.heap.size _ 0 [] rfl (NoneAt.own ⟨_,rfl,Nat.le_refl _,Box.new _ _ _⟩) _ _ news rfl (hone _ (fun x u hx=>by rw [World.cell?_alloc_lt _ _ _ (World.block_lt_of_cell? _ _ hx)];exact hx)) (.inl rfl) (by unfold maxLen;omega) (by omega) (by simp) (fun v' w' hg=>?_)))
   go_ret
   rw [Nat.zero_add,List.nil_append] at hg
   have hb1:Below w.heap.size w (w.alloc (.cells #[] 56)):=(Below.refl _ _).alloc (Nat.le_refl _) _
   have hg':=hg.behind hb1
   have hb:=hg'.below (B:=w.heap.size) (Nat.le_refl _) (fun g e=>by cases e;exact Nat.le_refl _)
   refine ⟨_,news,rfl,hb,⟨hg.own.1,hg.own.2.imp id (fun ⟨g,c',cur,e1,_,e3⟩=>⟨g,c',cur,e1,Nat.zero_le _,e3⟩)⟩,RDL.mono (Ft.le_refl _) (.of_blocks (fun b o h=>hb.block b (hF.1 b o h)) (fun b h=>hb.block b (hF.2 b h))) _ _ n1,n3,n4,hmax,fun b h=>?_⟩
   rcases hg.own.2 with ⟨rfl,_⟩|⟨g,c',cur,rfl,h1,_⟩
   ·cases h
   ·cases h;exact h1
set_option maxRecDepth 100000 in
set_option maxHeartbeats 4000000 in
theorem cloneH_spec (es:List (List D)) (dd0 d0:List D) (hes:es.length≤1048576):SpecO Tryz.prog 79 [.one (.sl 42 dd0 es)] 36 42 d0 es:=by
 intro F w us hF ha
 simp only [RAL] at ha
 obtain ⟨u,r,rfl,hu,rfl⟩:=ha
 simp only [RA,RD] at hu
 obtain ⟨a,cap,rfl,hcap,hmax,hrr⟩:=hu
 cases a with
 |none=>
   have hn:=hrr.none_nil
   subst hn
   go_enter Tryz.func79,Tryz.ntmps79
   go_wp2_with (simp only [run_eql_nil Tryz.underlying49])
   go_ret
   exact ⟨_,[],rfl,Below.refl _ _,World.ownsRow_nil _ _ _ _,by simp [RDL],by simp,by simp,by simp,fun b h=>by cases h⟩
 |some ad=>
   obtain ⟨news,n1,n2,n3,n4,n5⟩:=rr_source hrr
   have hone:∀ W:World,(∀ x u,w.cell? x=some u→W.cell? x=some u)→Source Tryz.prog 49 49 42 W (.slice (some ad) es.length cap) es.length news:=fun W hW=>
    Source.cells ad _ cap news rfl n2 (fun j u hj=>hW _ _ (n5 j u hj)) n3
   clear n5
   go_enter Tryz.func79,Tryz.ntmps79
   go_wp2_with (first
    |simp only [run_eql_nil Tryz.underlying49]
    |(at_builtin;refine wpList_app rfl _ _ rfl elemH w.heap.size _ 0 [] rfl (NoneAt.own ⟨_,rfl,Nat.le_refl _,Box.new _ _ _⟩) _ _ news rfl (hone _ (fun x u hx=>by rw [World.cell?_alloc_lt _ _ _ (World.block_lt_of_cell? _ _ hx)];exact hx)) (.inl rfl) (by unfold maxLen;omega) (by omega) (by simp) (fun v' w' hg=>?_)))
   go_ret
   rw [Nat.zero_add,List.nil_append] at hg
   have hb1:Below w.heap.size w (w.alloc (.cells #[] 36)):=(Below.refl _ _).alloc (Nat.le_refl _) _
   have hg':=hg.behind hb1
   have hb:=hg'.below (B:=w.heap.size) (Nat.le_refl _) (fun g e=>by cases e;exact Nat.le_refl _)
   refine ⟨_,news,rfl,hb,⟨hg.own.1,hg.own.2.imp id (fun ⟨g,c',cur,e1,_,e3⟩=>⟨g,c',cur,e1,Nat.zero_le _,e3⟩)⟩,RDL.mono (Ft.le_refl _) (.of_blocks (fun b o h=>hb.block b (hF.1 b o h)) (fun b h=>hb.block b (hF.2 b h))) _ _ n1,n3,n4,hmax,fun b h=>?_⟩
   rcases hg.own.2 with ⟨rfl,_⟩|⟨g,c',cur,rfl,h1,_⟩
   ·cases h
   ·cases h;exact h1

section
variable {P:Program}
theorem run_copy_rowN (w:World) (dT sT ty elem:TypeId) (s g o dLen dCap:Nat) (a:Addr) (sLen sCap:Nat) (cur:Array Value) (t:TypeId) (cs:List Value)
  (hu:P.underlying dT=some (.slice elem)) (hs:(P.info? elem).map (·.size)=some s)
  (hg:w.heap[g]? =some (.cells cur t (0,0))) (hn:cs.length=Nat.min sLen dLen * s)
  (hsrc:∀ j v,cs[j]? =some v→w.cell? (a.add j)=some v) (hfit:o+cs.length≤cur.size) (h1:∀ v∈cs,v.oneCell'=true):
  (Builtin.copy_ #[dT,sT] ty #[.slice (some ⟨g,o,none⟩) dLen dCap,.slice (some a) sLen sCap]).run P w=
   .ok (goInt (Nat.min sLen dLen)) (w.setRow g (cur.toList.take o++cs++cur.toList.drop (o+cs.length)).toArray):=by
 have hl:=run_loadCells_list (P:=P) w a cs hsrc
 have hst:=run_storeCells_at P g o t cs 0 cur w hg (by simpa using hfit) h1
 cases hq:P.info? elem with
 |none=>simp [hq] at hs
 |some i=>
   have hi:i.size=s:=by simpa [hq] using hs
   simp [Builtin.copy_,run_underlying hu,Builtin.lenOf,Builtin.firstCells,sizeOf,typeInfo,hq,hi,← hn,hl,hst]
theorem splice_row (cur:List Value) (p q:Nat) (vs:List Value) (s:Nat) (hvs:vs.length=s) (hp:p≤q) (hq:q+s≤cur.length):
  (((cur.take (p+s)++(cur.take q).drop p++cur.drop (p+s+((cur.take q).drop p).length)).take p++vs++(cur.take (p+s)++(cur.take q).drop p++cur.drop (p+s+((cur.take q).drop p).length)).drop (p+vs.length)))=cur.take p++vs++(cur.take q).drop p++cur.drop (q+s):=by
 have h1:((cur.take q).drop p).length=q - p:=by rw [List.length_drop,List.length_take];omega
 rw [h1,hvs,show p+s+(q - p)=q+s by omega]
 have h2:(cur.take (p+s)).length=p+s:=by rw [List.length_take];omega
 rw [List.append_assoc (cur.take (p+s)),List.take_append_of_le_length (by omega),List.take_take,Nat.min_eq_left (by omega)]
 rw [List.drop_append_of_le_length (by omega)]
 have h3:(cur.take (p+s)).drop (p+s)=[]:=by rw [List.drop_eq_nil_iff];omega
 rw [h3]
 simp
end
set_option maxRecDepth 100000 in
set_option maxHeartbeats 4000000 in
theorem insH_shift (b n c i vb vc:Nat) (cur:Array Value) (vs:List Value) (w:World) (hi:i < n) (hroom:n+1≤c) (hc63:c≤9223372036854775807) (hvb:vb≠b)
  (hb:w.heap[b]? =some (.cells cur 36 (0,0))) (hcs:cur.size=c * 42) (hvl:vs.length=42)
  (hvs:∀ j v,vs[j]? =some v→w.cell? ⟨vb,j,none⟩=some v) (h1c:∀ v∈cur.toList.take (n * 42),v.oneCell'=true) (h1v:∀ v∈vs,v.oneCell'=true)
  (tA:TypeId) (kA:Nat) (hsa:w.shape? vb=some (tA,kA)) (hfa:w.frozen? ⟨vb,0,none⟩=false) (hfe:w.frozen? ⟨vb,kA,none⟩=false):
  Calls Tryz.prog 78 #[.slice (some ⟨b,0,none⟩) n c,.int .i64 i,.slice (some ⟨vb,0,none⟩) 1 vc] w fun e w'=>
   e= .returned (.slice (some ⟨b,0,none⟩) (n+1) c)∧w'=w.drew.setRow b (cur.toList.take (i * 42)++vs++(cur.toList.take (n * 42)).drop (i * 42)++cur.toList.drop ((n+1) * 42)).toArray:=by
 have hz2:¬ ((i:Int)=(n:Int)):=by omega
 have hw1:IntKind.i64.wrap ((i:Int)+1)=(i:Int)+1:=by rw [IntKind.wrap_i64];omega
 have hb1:(0:Int)≤(i:Int)+1:=by omega
 have hin:i≤n:=by omega
 have htn:((i:Int)+1).toNat=i+1:=by omega
 have hb2:¬ (c=i+1):=by omega
 have hb3:(i:Int)≤(n:Int)+1:=by omega
 have hb4:¬ (c=i):=by omega
 have hsb:w.shape? b=some (36,c * 42):=by simp [World.shape?,hb,hcs]
 have hsE:(Tryz.prog.info? 36).map (·.size)=some 42:=by kernel_rfl
 obtain ⟨j,hj,hjs⟩:∃ j,Tryz.prog.info? 36=some j∧j.size=42:=by
  cases hq:Tryz.prog.info? 36 with
  |none=>rw [hq] at hsE;cases hsE
  |some j=>rw [hq] at hsE;exact ⟨j,rfl,by simpa using hsE⟩
 have hov:∀ lb cb,(callFunc 101 #[.slice (some ⟨vb,0,none⟩) 1 vc,.slice (some ⟨b,(i+1) * 42,none⟩) lb cb]).run Tryz.prog w= .ok (.value (.bool false)) w:=fun lb cb=>by
  rw [run_callFunc_extern Tryz.func101 (by kernel_rfl) (by kernel_rfl) (by kernel_rfl) (e:=Extern.SlicesOverlaps.overlaps #[49,49] #[4]) (by kernel_rfl),
   Lib.run_overlaps_apart w 49 4 36 Tryz.underlying49 42 (fun w=>by simp [Go.sizeOf,typeInfo,hj,hjs]) ⟨vb,0,none⟩ ⟨b,(i+1) * 42,none⟩ 1 vc lb cb hvb tA 36 kA (c * 42) hsa hsb (by omega) hfa hfe]
  rfl
 have hlen:cur.toList.length=c * 42:=by simpa using hcs
 have hln:((cur.toList.take (n * 42)).drop (i * 42)).length=(n - i) * 42:=by
  rw [List.length_drop,List.length_take,hlen,Nat.min_eq_left (by omega),Nat.sub_mul]
 have hcell:∀ j v,((cur.toList.take (n * 42)).drop (i * 42))[j]? =some v→w.drew.cell? ⟨b,i * 42+j,none⟩=some v:=fun j v hj=>by
  have hj1:=(List.getElem?_eq_some_iff.1 hj).1
  rw [List.getElem?_drop,List.getElem?_take_of_lt (by rw [hln] at hj1;omega)] at hj
  have:w.drew.heap[b]? =some (.cells cur 36 (0,0)):=hb
  simp only [World.cell?,this]
  simpa using hj
 obtain ⟨c1,hc1⟩:∃ c1:Array Value,c1=(cur.toList.take ((i+1) * 42)++(cur.toList.take (n * 42)).drop (i * 42)++cur.toList.drop ((i+1) * 42+((cur.toList.take (n * 42)).drop (i * 42)).length)).toArray:=⟨_,rfl⟩
 have hcp1:∀ ty dc sc,(Builtin.copy_ #[49,49] ty #[.slice (some ⟨b,(i+1) * 42,none⟩) (n - i) dc,.slice (some ⟨b,i * 42,none⟩) (n+1 - i) sc]).run Tryz.prog w.drew= .ok (goInt (Nat.min (n+1 - i) (n - i))) (w.drew.setRow b c1):=fun ty dc sc=>by
  rw [hc1]
  exact run_copy_rowN w.drew 49 49 ty 36 42 b ((i+1) * 42) (n - i) dc ⟨b,i * 42,none⟩ (n+1 - i) sc cur 36 _ Tryz.underlying49 hsE hb (by rw [hln];simp only [Nat.min_def];split<;>omega) (fun j v hj=>by rw [Addr.add_lit];exact hcell j v hj) (by rw [hln,hcs];omega) (fun v hv=>h1c v (List.mem_of_mem_drop hv))
 obtain ⟨W1,hW1⟩:∃ W1,W1=w.drew.setRow b c1:=⟨_,rfl⟩
 rw [← hW1] at hcp1
 have hbl:b < w.heap.size:=(Array.getElem?_eq_some_iff.1 hb).1
 have hg1:W1.heap[b]? =some (.cells c1 36 (0,0)):=by rw [hW1];exact setRow_heap w.drew b cur c1 _ _ hb
 have hc1s:c1.size=c * 42:=by rw [hc1];simp [hln,hlen];omega
 have hvs1:∀ j v,vs[j]? =some v→W1.cell? ⟨vb,j,none⟩=some v:=fun j v hj=>by
  rw [hW1]
  exact cell_kept (w:=w) (setRow_other w.drew b vb c1 hvb) (hvs j v hj)
 have hcp2:∀ ty dc,(Builtin.copy_ #[49,49] ty #[.slice (some ⟨b,i * 42,none⟩) (n+1 - i) dc,.slice (some ⟨vb,0,none⟩) 1 vc]).run Tryz.prog W1= .ok (goInt (Nat.min 1 (n+1 - i))) (W1.setRow b (c1.toList.take (i * 42)++vs++c1.toList.drop (i * 42+vs.length)).toArray):=fun ty dc=>
  run_copy_rowN W1 49 49 ty 36 42 b (i * 42) (n+1 - i) dc ⟨vb,0,none⟩ 1 vc c1 36 vs Tryz.underlying49 hsE hg1 (by rw [hvl];simp only [Nat.min_def];split<;>omega) (fun j v hj=>by rw [Addr.add_lit,Nat.zero_add];exact hvs1 j v hj) (by rw [hvl,hc1s];omega) h1v
 have hfin:W1.setRow b (c1.toList.take (i * 42)++vs++c1.toList.drop (i * 42+vs.length)).toArray=w.drew.setRow b (cur.toList.take (i * 42)++vs++(cur.toList.take (n * 42)).drop (i * 42)++cur.toList.drop ((n+1) * 42)).toArray:=by
  have h:=splice_row cur.toList (i * 42) (n * 42) vs 42 hvl (by omega) (by rw [hlen];omega)
  rw [hW1,setRow_setRow,hc1,show (i+1) * 42=i * 42+42 by omega,show (n+1) * 42=n * 42+42 by omega]
  simp only [List.toList_toArray]
  rw [h]
 rw [hfin] at hcp2
 have mixed:Tryz.prog.follows .mixedOrders=true:=by kernel_rfl
 generalize w.drew.setRow b (cur.toList.take (i * 42)++vs++(cur.toList.take (n * 42)).drop (i * 42)++cur.toList.drop ((n+1) * 42)).toArray=W2 at hcp2 ⊢
 clear hcell hvs1 hfin hW1 hc1 hc1s hg1
 go_enter Tryz.func78,Tryz.ntmps78
 go_wp2_with (simp only [hov])
 go_region_law_o (refine step_copy_runI rfl _ _ 49 49 rfl _ _ (by simp [Act.eval,Act.put]) (by simp [Act.eval,Act.put]) (hcp1 _ _ _) ?_)
 go_wp2_with (at_builtin;refine wpList_copy_runI _ rfl _ _ 49 49 rfl _ _ rfl rfl (hcp2 _ _) ?_)
 go_ret
 exact ⟨rfl,rfl⟩

theorem zeroH_len (k:Nat):(Builtin.zeroCells zHandV.cells k).size=k * 42:=by
 have h:zHandV.cells.size=42:=by kernel_rfl
 simp [Builtin.zeroCells,h]
set_option maxHeartbeats 4000000 in
set_option maxRecDepth 100000 in
theorem insH_grow (b n c i vb vc:Nat) (cs vs:List Value) (w:World) (hi:i < n) (hnc:n≤c) (hroom:c < n+1) (hbig:(n+1) * 112≤140737488355328)
  (hcl:cs.length=n * 42) (hvl:vs.length=42)
  (hcs:∀ j v,cs[j]? =some v→w.cell? ⟨b,j,none⟩=some v)
  (hvs:∀ j v,vs[j]? =some v→w.cell? ⟨vb,j,none⟩=some v) (h1c:∀ v∈cs,v.oneCell'=true) (h1v:∀ v∈vs,v.oneCell'=true):
  Calls Tryz.prog 78 #[.slice (some ⟨b,0,none⟩) n c,.int .i64 i,.slice (some ⟨vb,0,none⟩) 1 vc] w fun e w'=>
   ∃ G cur,e= .returned (.slice (some ⟨w.heap.size,0,none⟩) (n+1) G)∧w'.heap[w.heap.size]? =some (.cells cur 36 (0,0))∧n+1≤G∧G≤maxLen∧cur.size=G * 42∧cur.toList.take ((n+1) * 42)=cs.take (i * 42)++vs++cs.drop (i * 42)∧Below w.heap.size w w':=by
 obtain ⟨i0,hi0,hz0,hzs,hzb⟩:=info_parts elemH.info
 have hz2:¬ ((i:Int)=(n:Int)):=by omega
 have hz3:(c:Int) < (n:Int)+1:=by omega
 have hsE:(Tryz.prog.info? 36).map (·.size)=some 42:=by kernel_rfl
 have hbw:b < w.heap.size:=block_lt_of_cell (hcs 0 _ (List.getElem?_eq_getElem (by omega)))
 have hvw:vb < w.heap.size:=block_lt_of_cell (hvs 0 _ (List.getElem?_eq_getElem (by omega)))
 have hkk:(n:Int)+1 - (i:Int)=((n+1 - i:Nat):Int):=by omega
 have hik:i+(n+1 - i)=n+1:=by omega
 have hold:(Builtin.firstCells i0.size i (.slice (some ⟨b,0,none⟩) i c)).run Tryz.prog w.drew= .ok (cs.take (i * 42)).toArray w.drew:=by
  rw [hzs]
  exact run_firstCells_some w.drew 42 i ⟨b,0,none⟩ i c (cs.take (i * 42)) (by rw [List.length_take];omega) (fun j v hj=>by
   rw [Addr.add_lit,Nat.zero_add]
   rw [List.getElem?_take] at hj
   split at hj
   ·exact hcs j v hj
   ·cases hj)
 have hrz:∀ ty,(Builtin.append_ #[49,3] ty #[.slice (some ⟨b,0,none⟩) i c,.int .i64 ((n:Int)+1 - (i:Int))]).run Tryz.prog w=
   .ok (.slice (some ⟨w.heap.size,0,none⟩) (n+1) (grownCap w (n+1) c 36)) (w.drew.alloc (.cells ((cs.take (i * 42)).toArray++Builtin.zeroCells zHandV.cells (n+1 - i)++Builtin.zeroCells zHandV.cells (grownCap w (n+1) c 36 - (n+1))) 36)):=fun ty=>by
  have h:=Lib.run_append_grow_zeros w 49 3 ty 36 i0 _ .i64 .i64 Tryz.underlying49 Tryz.underlying3 hi0 hz0 (some ⟨b,0,none⟩) i c (cs.take (i * 42)) hold (n+1 - i) (by omega) (by omega) (by omega) (by omega) (by rw [hzb];omega) (by rw [hzb,hik];exact growslice_fits hroom hbig)
  rw [hik] at h
  rw [hkk]
  exact h
 obtain ⟨G,hG⟩:∃ G,G=grownCap w (n+1) c 36:=⟨_,rfl⟩
 obtain ⟨ROW,hROW⟩:∃ ROW:Array Value,ROW=(cs.take (i * 42)).toArray++Builtin.zeroCells zHandV.cells (n+1 - i)++Builtin.zeroCells zHandV.cells (G - (n+1)):=⟨_,rfl⟩
 rw [← hG] at hrz
 rw [← hROW] at hrz
 have hGn:n+1≤G:=by rw [hG];exact grownCap_ge w _ _ _
 have hGm:G≤maxLen:=by rw [hG];exact grownCap_le_maxLen w (n+1) c 36 (by unfold maxLen;omega)
 have hG63:G≤9223372036854775807:=by
  have:=hGm
  unfold maxLen at this
  omega
 have hRs:ROW.size=G * 42:=by
  rw [hROW]
  simp only [Array.size_append,zeroH_len,List.size_toArray,List.length_take,hcl]
  omega
 have hRt:ROW.toList.take (i * 42)=cs.take (i * 42):=by
  rw [hROW]
  simp only [Array.toList_append,List.append_assoc]
  rw [List.take_append_of_le_length (by rw [List.length_take];omega),List.take_take,Nat.min_self]
 have hRl:ROW.toList.length=G * 42:=by simpa using hRs
 obtain ⟨W1,hW1⟩:∃ W1,W1=w.drew.alloc (.cells ROW 36):=⟨_,rfl⟩
 rw [← hW1] at hrz
 have hg1:W1.heap[w.heap.size]? =some (.cells ROW 36 (0,0)):=by rw [hW1];exact heap_alloc_new w.drew _
 have hbelow1:Below w.heap.size w W1:=by
  rw [hW1]
  have h:=(Below.refl w.heap.size w.drew).alloc (Nat.le_refl _) (.cells ROW 36)
  exact ⟨h.os,h.tape,h.output,h.size,h.block⟩
 obtain ⟨c1,hc1⟩:∃ c1:Array Value,c1=(ROW.toList.take (i * 42)++vs++ROW.toList.drop (i * 42+vs.length)).toArray:=⟨_,rfl⟩
 have hc1l:c1.toList.length=G * 42:=by
  rw [hc1]
  simp only [List.toList_toArray,List.length_append,List.length_take,List.length_drop,hRl,hvl]
  have:i * 42+42≤G * 42:=by omega
  omega
 have hvs1:∀ j v,vs[j]? =some v→W1.cell? ⟨vb,j,none⟩=some v:=fun j v hj=>below_cell hbelow1 (hvs j v hj)
 have hcpA:∀ (W:World),W.heap=W1.heap→∀ ty dc,(Builtin.copy_ #[49,49] ty #[.slice (some ⟨w.heap.size,i * 42,none⟩) (n+1 - i) dc,.slice (some ⟨vb,0,none⟩) 1 vc]).run Tryz.prog W= .ok (goInt (Nat.min 1 (n+1 - i))) (W.setRow w.heap.size c1):=fun W hW ty dc=>by
  rw [hc1]
  exact run_copy_rowN W 49 49 ty 36 42 w.heap.size (i * 42) (n+1 - i) dc ⟨vb,0,none⟩ 1 vc ROW 36 vs Tryz.underlying49 hsE (by rw [hW];exact hg1) (by rw [hvl];simp only [Nat.min_def];split<;>omega) (fun j v hj=>by rw [Addr.add_lit,Nat.zero_add];have:=hvs1 j v hj;simpa [World.cell?,hW] using this) (by rw [hvl,hRs];omega) h1v
 obtain ⟨W2,hW2⟩:∃ W2,W2=W1.setRow w.heap.size c1:=⟨_,rfl⟩
 have hg2:W2.heap[w.heap.size]? =some (.cells c1 36 (0,0)):=by rw [hW2];exact setRow_heap W1 w.heap.size ROW c1 _ _ hg1
 have hcs2:∀ j v,cs[j]? =some v→W2.cell? ⟨b,j,none⟩=some v:=fun j v hj=>by
  rw [hW2]
  exact cell_kept (w:=W1) (setRow_other W1 w.heap.size b c1 (by omega)) (below_cell hbelow1 (hcs j v hj))
 have hdl:(cs.drop (i * 42)).length=(n - i) * 42:=by rw [List.length_drop,hcl,Nat.sub_mul]
 obtain ⟨c2,hc2⟩:∃ c2:Array Value,c2=(c1.toList.take ((i+1) * 42)++cs.drop (i * 42)++c1.toList.drop ((i+1) * 42+(cs.drop (i * 42)).length)).toArray:=⟨_,rfl⟩
 have hcpB:∀ (W:World),W.heap=W2.heap→∀ ty dc sc,(Builtin.copy_ #[49,49] ty #[.slice (some ⟨w.heap.size,(i+1) * 42,none⟩) (n+1 - (i+1)) dc,.slice (some ⟨b,i * 42,none⟩) (n - i) sc]).run Tryz.prog W= .ok (goInt (Nat.min (n - i) (n+1 - (i+1)))) (W.setRow w.heap.size c2):=fun W hW ty dc sc=>by
  rw [hc2]
  exact run_copy_rowN W 49 49 ty 36 42 w.heap.size ((i+1) * 42) (n+1 - (i+1)) dc ⟨b,i * 42,none⟩ (n - i) sc c1 36 _ Tryz.underlying49 hsE (by rw [hW];exact hg2) (by rw [hdl];simp only [Nat.min_def];split<;>omega) (fun j v hj=>by
   rw [Addr.add_lit]
   rw [List.getElem?_drop] at hj
   have:=hcs2 _ v hj
   simpa [World.cell?,hW] using this) (by rw [hdl];have:c1.size=G * 42:=(by simpa using hc1l);omega) (fun v hv=>h1c v (List.mem_of_mem_drop hv))
 have hc2t:c2.toList.take ((n+1) * 42)=cs.take (i * 42)++vs++cs.drop (i * 42):=by
  have e1:c1.toList.take ((i+1) * 42)=cs.take (i * 42)++vs:=by
   rw [hc1]
   simp only [List.toList_toArray]
   rw [List.take_append_of_le_length (by simp only [List.length_append,List.length_take,hRl,hvl];omega),hRt]
   exact List.take_of_length_le (by simp only [List.length_append,List.length_take,hcl,hvl];omega)
  rw [hc2]
  simp only [List.toList_toArray]
  rw [e1]
  have hl:(cs.take (i * 42)++vs++cs.drop (i * 42)).length=(n+1) * 42:=by simp only [List.length_append,List.length_take,hdl,hcl,hvl];omega
  rw [List.take_append_of_le_length (by omega)]
  exact List.take_of_length_le (by omega)
 have hc2s:c2.size=G * 42:=by
  rw [hc2]
  simp only [List.size_toArray,List.length_append,List.length_take,List.length_drop,hdl,hc1l]
  omega
 have hw1:IntKind.i64.wrap ((i:Int)+1)=(i:Int)+1:=by rw [IntKind.wrap_i64];omega
 have hb1:(0:Int)≤(i:Int)+1:=by omega
 have hin:i≤n:=by omega
 have htn:((i:Int)+1).toNat=i+1:=by omega
 have hb3:(i:Int)≤(n:Int):=by omega
 have hGi:¬ (G=i):=by omega
 have hGim:¬ (G=i+1):=by omega
 have hci:¬ (c=i):=by omega
 have hlast:∀ W:World,W.heap=(W2.setRow w.heap.size c2).heap→W.os=w.os→W.tape=w.tape→W.output=w.output→W.heap[w.heap.size]? =some (.cells c2 36 (0,0))∧Below w.heap.size w W:=fun W hW h1 h2 h3=>by
  have hsz:W1.heap.size≤W.heap.size:=by rw [hW,hW2];simp [World.setRow]
  refine ⟨by rw [hW];exact setRow_heap W2 w.heap.size c1 c2 _ _ hg2,h1,h2,h3,Nat.le_trans hbelow1.size hsz,fun k hk=>?_⟩
  rw [hW,setRow_other W2 w.heap.size k c2 (by omega),hW2,setRow_other W1 w.heap.size k c1 (by omega)]
  exact hbelow1.block k hk
 clear hkk hik hold hROW hG hRs hRt hRl hc1 hc1l hvs1 hcs2 hdl hc2
 have mixed:Tryz.prog.follows .mixedOrders=true:=by kernel_rfl
 go_enter Tryz.func78,Tryz.ntmps78
 go_wp2_with (first
  |(at_builtin;refine Lib.wpList_append_run _ rfl _ _ _ _ rfl _ _ rfl rfl _ _ (hrz _) ?_)
  |(at_builtin;refine wpList_copy_runI _ rfl _ _ 49 49 rfl _ _ rfl rfl (hcpA _ rfl _ _) ?_)
  |(at_builtin;refine wpList_copy_runI _ rfl _ _ 49 49 rfl _ _ rfl rfl (hcpB _ (by rw [hW2];rfl) _ _ _) ?_))
 go_region_law_o (refine step_copy_runI rfl _ _ 49 49 rfl (.slice (some ⟨w.heap.size,(i+1) * 42,none⟩) (n+1 - (i+1)) (G - (i+1))) (.slice (some ⟨b,i * 42,none⟩) (n - i) (c - i)) (by simp [Act.eval,Act.put]) (by simp [Act.eval,Act.put]) (hcpB _ (by rw [hW2,hW1];rfl) 3 (G - (i+1)) (c - i)) ?_)
 go_wp2
 go_ret
 refine ⟨G,c2,rfl,?_⟩
 obtain ⟨l1,l2⟩:=hlast (((w.alloc (.cells ROW 36)).drew.setRow w.heap.size c1).drew.setRow w.heap.size c2) (by rw [hW2,hW1];rfl) rfl rfl rfl
 exact ⟨l1,hGn,hGm,hc2s,hc2t,l2⟩
theorem wpList_app3 {P:Program} {w:World} {a:Act} {ops:Array Oper} {rest:List Oper} {o:Oper} {Q:Exit→Act→World→Prop} (hgd:o.guard=none) (s x:Operand) {t e:TypeId} {z:Value} {size bytes:Nat}
  (ho:o.op= .call { callee:= .builtin .append,args:= #[s,x],argTypes:= #[t,t] }) (E:Elem P t e z size bytes)
  (v:Value) (n:Nat) (xs:List Value) (hs:a.eval s=v) (hown:w.ownsRow 0 e size v n xs) (ad:Addr) (m c:Nat) (news:List Value) (hx:a.eval x= .slice (some ad) m c) (hl:news.length=m * size) (hnews:∀ j u,news[j]? =some u→w.cell? (ad.add j)=some u) (h1:∀ u∈news,u.oneCell'=true)
  (h63:n+m≤maxLen) (hbytes:(n+m) * bytes≤140737488355328)
  (h:∀ v' w',Grew 0 e size w v v' (n+m) (xs++news) w'→(∀ g,v.ownBlock=some g→v'.ownBlock=some g∨w'.heap[g]? =w.heap[g]?)→wpList P ops Q rest (a.put o.dst v') w'):wpList P ops Q (o :: rest) a w:=by
 refine wpList_plain hgd fun _ hK=>?_
 obtain ⟨i,hi,hz,hsz,hby⟩:=info_parts E.info
 obtain ⟨v',w',hr,h2,h3⟩:=run_append_own3 (P:=P) w 0 t o.type e i z size bytes E.ht hi hz hsz hby E.hzs E.pos v n xs hown ad m c news hl hnews h1 h63 hbytes (Nat.zero_le _)
 unfold Oper.wp execOp
 simp only [ho,resolve,invoke,builtin,Sem.run_bind,Sem.run_pure,Result.andThen_ok,List.map_toArray,List.map_cons,List.map_nil,hs,hx,hr]
 exact hK _ _ (h v' w' h2 h3)
set_option maxHeartbeats 4000000 in
set_option maxRecDepth 100000 in
theorem insH_end (n vb vc:Nat) (v:Value) (us vs:List Value) (w:World) (hown:w.ownsRow 0 36 42 v n us) (hbig:(n+1) * 112≤140737488355328) (hvl:vs.length=42)
  (hvs:∀ j v,vs[j]? =some v→w.cell? ⟨vb,j,none⟩=some v) (h1v:∀ v∈vs,v.oneCell'=true):
  Calls Tryz.prog 78 #[v,.int .i64 n,.slice (some ⟨vb,0,none⟩) 1 vc] w fun e w'=>
   ∃ v',e= .returned v'∧Grew 0 36 42 w v v' (n+1) (us++vs) w'∧∀ g,v.ownBlock=some g→v'.ownBlock=some g∨w'.heap[g]? =w.heap[g]?:=by
 obtain ⟨av,cv,hv,hcv⟩:=own_form hown
 have hcm:cv≤9223372036854775807:=by
  rcases hown.2 with ⟨e1,_⟩|⟨g,cap,cur,e1,_,_,_,h5,_⟩
  ·rw [hv] at e1;cases e1;omega
  ·rw [hv] at e1;cases e1;unfold maxLen at h5;omega
 subst hv
 by_cases hcn:cv=n
 ·subst hcn
  go_enter Tryz.func78,Tryz.ntmps78
  go_wp2_with (at_builtin;refine wpList_app3 rfl _ _ rfl elemH _ _ us rfl hown _ 1 vc vs rfl (by rw [hvl]) (fun j u hj=>by rw [Addr.add_lit,Nat.zero_add];exact hvs j u hj) h1v (by unfold maxLen;omega) hbig (fun v' w' hg hk=>?_))
  go_ret
  exact ⟨_,rfl,hg,hk⟩
 ·have hcn':¬ n=cv:=fun e=>hcn e.symm
  go_enter Tryz.func78,Tryz.ntmps78
  go_wp2_with (at_builtin;refine wpList_app3 rfl _ _ rfl elemH _ n us rfl hown _ 1 vc vs rfl (by rw [hvl]) (fun j u hj=>by rw [Addr.add_lit,Nat.zero_add];exact hvs j u hj) h1v (by unfold maxLen;omega) hbig (fun v' w' hg hk=>?_))
  go_ret
  exact ⟨_,rfl,hg,hk⟩
theorem insH_any (w:World) (v xv:Value) (n i:Nat) (us vs:List Value) (hi:i≤n) (hbig:(n+1) * 112≤140737488355328) (hown:w.ownsRow 0 36 42 v n us) (hox:w.ownsRow 0 36 42 xv 1 vs) (hne:v.ownBlock≠xv.ownBlock)
  (h1:∀ u∈us,u.oneCell'=true) (h1v:∀ u∈vs,u.oneCell'=true):
  Calls Tryz.prog 78 #[v,.int .i64 i,xv] w fun e w'=>∃ v',e= .returned v'∧Grew 0 36 42 w v v' (n+1) (us.take (i * 42)++vs++us.drop (i * 42)) w'∧∀ g,v.ownBlock=some g→v'.ownBlock=some g∨w'.heap[g]? =w.heap[g]?:=by
 have hvl:vs.length=42:=by have:=hox.1;omega
 have hul:=hown.1
 rcases hox.2 with ⟨_,h0⟩|⟨vb,vc,vcur,rfl,_,hvb,_,_,hvs,hvt⟩
 ·omega
 have hcv:∀ j u,vs[j]? =some u→w.cell? ⟨vb,j,none⟩=some u:=fun j u hj=>by
  have:=hox.cells (g:=vb) rfl j u hj
  rwa [Addr.add_any,Nat.zero_add] at this
 by_cases hin:i=n
 ·subst hin
  have:=insH_end i vb vc v us vs w hown hbig hvl hcv h1v
  rw [List.take_of_length_le (by omega),List.drop_eq_nil_of_le (by omega),List.append_nil]
  exact this
 rcases hown.2 with ⟨_,h0⟩|⟨b,c,cur,rfl,_,hb,hnc,hcm,hcs,hct⟩
 ·omega
 have hbv:vb≠b:=fun e=>hne (by rw [e];rfl)
 have hcu:∀ j u,us[j]? =some u→w.cell? ⟨b,j,none⟩=some u:=fun j u hj=>by
  have:=hown.cells (g:=b) rfl j u hj
  rwa [Addr.add_any,Nat.zero_add] at this
 have hlen:cur.toList.length=c * 42:=by simpa using hcs
 by_cases hroom:n+1≤c
 ·refine (insH_shift b n c i vb vc cur vs w (by omega) hroom (by unfold maxLen at hcm;omega) hbv hb hcs hvl hcv (by rw [hct];exact h1) h1v 36 vcur.size (by simp [World.shape?,hvb]) (by simp [World.frozen?,hvb]) (by simp [World.frozen?,hvb])).mono ?_
  rintro e w' ⟨rfl,rfl⟩
  refine ⟨_,rfl,⟨⟨by simp only [List.length_append,List.length_take,List.length_drop];omega,.inr ⟨b,c,_,rfl,Nat.zero_le _,setRow_heap w.drew b cur _ _ _ hb,hroom,hcm,?_,?_⟩⟩,⟨rfl,rfl,rfl,by simp [World.setRow],fun k hk hne'=>setRow_other w.drew b k _ (fun e=>hne' (by rw [e];rfl))⟩,fun g hg=> .inr hg⟩,fun g hg=> .inl hg⟩
  ·simp only [List.size_toArray,List.length_append,List.length_take,List.length_drop,hlen,hvl];omega
  ·have e1:cur.toList.take (i * 42)=us.take (i * 42):=by rw [← hct,List.take_take,Nat.min_eq_left (by omega)]
   simp only [List.toList_toArray]
   rw [hct,e1,List.take_append_of_le_length (by simp only [List.length_append,List.length_take,List.length_drop,hvl];omega)]
   exact List.take_of_length_le (by simp only [List.length_append,List.length_take,List.length_drop,hvl];omega)
 ·refine (insH_grow b n c i vb vc us vs w (by omega) hnc (by omega) hbig hul hvl hcu hcv h1 h1v).mono ?_
  rintro e w' ⟨G,cur',rfl,h2,h3,h4,h5,h6,h7⟩
  refine ⟨_,rfl,⟨⟨by simp only [List.length_append,List.length_take,List.length_drop];omega,.inr ⟨_,G,cur',rfl,Nat.zero_le _,h2,h3,h4,h5,h6⟩⟩,⟨h7.os,h7.tape,h7.output,h7.size,fun k hk _=>h7.block k hk⟩,fun g hg=> .inl (by cases hg;exact Nat.le_refl _)⟩,fun g hg=> .inr (h7.block g (hown.lt g hg).2)⟩
end Go.Proofs.YthidfoohhhkobaaGreat
