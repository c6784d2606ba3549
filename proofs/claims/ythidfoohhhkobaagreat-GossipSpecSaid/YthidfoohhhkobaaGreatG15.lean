import Derived.Test.YthidfoohhhkobaaGreatG14
import Derived.Test.YthidfoohhhkobaaGreatG12
import Derived.Defers
import Derived.Recover
namespace Go.Proofs.YthidfoohhhkobaaGreat
set_option linter.unusedSimpArgs false
set_option linter.unusedVariables false
open Go.RowKit
set_option maxRecDepth 100000
set_option maxHeartbeats 4000000
abbrev s4 (a:ActP) (i:Nat) (L:List (List Hd)) (n:NetP):St:=⟨[(25,.ptr 0 0),(26,.ptr 1 0),(30,.ptr 2 0),(61,.ptr 0 0),(62,.ptr 1 0),(2,.ptr 4 0),(3,.ptr 5 0)],(5,.cells 38 (vI a.kind :: vI i :: vI a.to_ :: vI a.at_ :: dV (handD a.hand))) :: (4,.cells 61 [.ptr 2 0]) :: stC L n,6⟩
theorem tellPk_succ (k:Nat) (i:Int) (h:Hd):tellPk (k+1) i h=tellPk k i h++(if (k:Int)≠i then [⟨i,k,msg h⟩] else []):=by
 unfold tellPk
 rw [List.range_succ,List.filter_append,List.map_append]
 by_cases e:(k:Int)≠i
 ·rw [if_pos e,List.filter_cons_of_pos (by simpa using e)];rfl
 ·rw [if_neg e,List.filter_cons_of_neg (by simpa using e)];rfl
theorem tell_net {n0:NetP} {i:Nat} {m:Nat} (h:Hd) (hn:netChk n0=0) (hq:n0.queue.length≤3000) (hm:m≤24) (hi:i < m):∀ k,k≤m→netChk ⟨n0.queue++tellPk k i h,n0.apart⟩=0∧(tellPk k i h).length≤k
 |0,_=>⟨by simpa [tellPk] using hn,by simp [tellPk]⟩
 |k+1,hk=>by
   obtain ⟨h1,h2⟩:=tell_net h hn hq hm hi k (by omega)
   rw [tellPk_succ]
   by_cases e:(k:Int)≠i
   ·rw [if_pos e,← List.append_assoc]
    refine ⟨netChk_snoc h1 (packetB_of hm (by omega) (by omega) (by omega) (by omega) (by omega) (by have:=msg_len h;omega)) (by simp only [List.length_append];omega),by simp;omega⟩
   ·rw [if_neg e,List.append_nil];exact ⟨h1,by omega⟩
theorem tell_ok (w:World) (F:Ft) (d:Deferred) (gh:Nat→Value) (r:RoomP) (a:ActP) (hin:inR r a.peer=true) (hm:hOk a.hand) (hf:formB a.hand=true)
  (hp:∀ l∈r.peers,l.length≤1000∧ordH l∧∀ x∈l,hOk x) (hn:netChk r.net=0) (hq:r.net.queue.length≤3000) (hn24:r.peers.length≤24) (hok:okNet r.net):
  callI Tryz.prog (Bdo w F d gh) 17 [.ptr 2 0,.agg (dV (actD a))] (some 37) (sAt 17 a r) (fun s'=>Wk Tryz.prog (Bdo w F d gh) s' (sTo ⟨setPeer r.peers a.peer a.hand,⟨r.net.queue++tellPk r.peers.length a.peer a.hand,r.net.apart⟩⟩)) ⟨⟩:=by
 have hno:=gneed_spec 1
 have hno0:=gneed_spec 0
 have hno2:=gneed_spec 2
 have hno4:=gneed_spec 480
 have hfs:=gformed_spec a.hand (hOk_many hm)
 rw [hf] at hfs
 unfold inR at hin
 rw [Bool.and_eq_true] at hin
 obtain ⟨hd0,hd1⟩:=hin
 have h0:=of_decide_eq_true hd0
 have h1:=of_decide_eq_true hd1
 obtain ⟨i,hi⟩:∃ i:Nat,a.peer=i:=⟨a.peer.toNat,by omega⟩
 have hil:i < r.peers.length:=by omega
 have hmem:r.peers.getD i []∈r.peers:=mem_getD hil
 obtain ⟨p1,p2,p3⟩:=hp _ hmem
 have hbs:=bsH_spec (r.peers.getD i []) a.hand (by omega) hm p3 p2
 have hg:=getD_rowP r.peers i hil
 unfold fnC at hbs
 rw [hi] at hd0 hd1 ⊢
 have hLn:(setPeer r.peers (i:Int) a.hand).length=r.peers.length:=by unfold setPeer;simp
 have hnet:=tell_net (i:=i) (m:=r.peers.length) a.hand hn hq hn24 hil
 have hms:=gmessage_spec a.hand hm
 have hml:(msg a.hand).length≤140737488351232:=by have:=msg_len a.hand;omega
 generalize hP:r.peers.getD i []=P at *
 repeat' (first |(with_reducible refine aw_seq ?_)|((first |((with_reducible refine aw_regionA T_ok ?_ ?_);kernel_rfl)|((with_reducible apply callI_in T_ok Tryz.func17);(focus (dsimp only [Tryz.f17]));(focus rfl);(focus rfl);kernel_rfl;(focus exact of_decide_eq_true (by kernel_rfl));(focus (kernel_rfl));kernel_rfl;intro _)|((with_reducible apply callI_in T_ok Tryz.func43);(focus (dsimp only [Tryz.f43]));(focus rfl);(focus rfl);kernel_rfl;(focus exact of_decide_eq_true (by kernel_rfl));(focus (kernel_rfl));kernel_rfl;intro _)|((with_reducible refine callI_spec (hno) ?_ ?_ ?_ ?_);(focus (with_unfolding_all rfl));kernel_rfl;kernel_rfl)|((with_reducible refine callI_spec (hno4) ?_ ?_ ?_ ?_);(focus (with_unfolding_all rfl));kernel_rfl;kernel_rfl)|((with_reducible refine callI_spec (hfs) ?_ ?_ ?_ ?_);(focus (((repeat' (first |exact ta_n|refine ta_a ?_));done)));kernel_rfl;kernel_rfl) );simp only [↓avP,avQ,avR,forall_const,implies_true,Nat.reduceEqDiff,Nat.reduceAdd,Nat.reduceSub,Nat.reduceLeDiff,reduceCtorEq,avS,stC,rowP,cellsC,actD_V,handS,ty_H,ty_3,ty_28,ty_64,ty_61,ty_38,ty_22,hd0,hd1,hi]))
 refine callI_wk (s1:=s4 a i (setPeer r.peers (i:Int) a.hand) r.net) ?_ ?_
 ·cases hfd:foundH P a.hand with
  |true=>
    rw [hfd] at hbs
    have hset:setPeer r.peers (i:Int) a.hand=r.peers:=by
     unfold setPeer learnL
     rw [Int.toNat_natCast,hP,if_pos hfd,← hP]
     simp [List.getD_eq_getElem?_getD,List.getElem?_eq_getElem hil]
    rw [hset]
    repeat' (first |(with_reducible first |refine aw_seq ?_|refine two_t ?_)|((with_reducible refine And.intro ?_ ?_);(focus (omega)))|((first |((with_reducible refine aw_regionA T_ok ?_ ?_);kernel_rfl)|((with_reducible refine aw_drawnA T_ok ?_ ?_ ?_ ?_);kernel_rfl;kernel_rfl;(focus (decide+kernel)))|((with_reducible apply callI_in T_ok Tryz.func46);(focus (dsimp only [Tryz.f46]));(focus rfl);(focus rfl);kernel_rfl;(focus exact of_decide_eq_true (by kernel_rfl));(focus (kernel_rfl));kernel_rfl;intro _)|((with_reducible refine callK_intro (hbs) ?_ ?_ ?_);(focus (((repeat' (first |exact ta_n|refine ta_a ?_|refine ta_d ?_));done)));kernel_rfl)|((with_reducible refine aw_condM ?_ ?_);kernel_rfl)|(with_reducible refine aw_ret ?_) );simp only [↓avP,avQ,avR,forall_const,implies_true,Nat.reduceEqDiff,Nat.reduceAdd,Nat.reduceSub,Nat.reduceLeDiff,reduceCtorEq,avS,s4,peer_h,stC,rowP,cellsC,handS,ty_H,ty_28,ty_64,ty_22,ty_56,ty_49,hg]))
    refine wk_of [(0,some 0),(1,some 1),(2,some 2),(3,some 3),(4,some 4),(5,some 5)] rfl rfl ?_ ?_
    ·simp only [wkA,reduceIte,Nat.reduceEqDiff]
     (repeat' (first |exact subVs_fl _ _|exact trivial|rfl|exact subVs_d _ _|refine And.intro ?_ ?_))
    ·simp only [wkA,reduceIte,Nat.reduceEqDiff]
     (repeat' (first |exact subVs_fl _ _|exact trivial|rfl|exact subVs_d _ _|refine And.intro ?_ ?_))
  |false=>
    rw [hfd] at hbs
    have hset:=set_rowP hP hfd
    have hclone:=cloneH_spec (P.map handD) (handD default) (handD default) (by simp;omega)
    have hlim:decide ((P.length:Int) < 4096)=true:=decide_eq_true (by omega)
    have hi1:lbH P a.hand≤(P.map handD).length:=by rw [List.length_map];exact lbH_le P a.hand
    have hi2:(P.map handD).length≤1048576:=by rw [List.length_map];omega
    have hi3:∀ y∈P.map handD,y.length=42:=fun y hy=>by obtain ⟨z,_,rfl⟩:=List.mem_map.1 hy;exact hd_ln z
    repeat' (first |(with_reducible first |refine aw_seq ?_|refine two_f ?_)|((with_reducible refine And.intro ?_ ?_);(focus (first |omega|decide)))|((first |((with_reducible refine aw_regionA T_ok ?_ ?_);kernel_rfl)|((with_reducible refine aw_drawnM (id:=5) 0 33 6 [0,1,2,3,4,5,6,7,8] [9,10,11,12] T_ok ?_ ?_ ?_ ?_ ?_ ?_ ?_ ?_);(focus rfl);kernel_rfl;kernel_rfl;(focus (decide+kernel));(focus (decide+kernel));(focus rfl);(focus (decide+kernel)))|((with_reducible refine aw_drawnA T_ok ?_ ?_ ?_ ?_);kernel_rfl;kernel_rfl;(focus (decide+kernel)))|((with_reducible apply callI_in T_ok Tryz.func46);(focus (dsimp only [Tryz.f46]));(focus rfl);(focus rfl);kernel_rfl;(focus exact of_decide_eq_true (by kernel_rfl));(focus (kernel_rfl));kernel_rfl;intro _)|((with_reducible refine callI_spec (hno2) ?_ ?_ ?_ ?_);(focus (with_unfolding_all rfl));kernel_rfl;kernel_rfl)|((with_reducible refine callK_intro (hbs) ?_ ?_ ?_);(focus (((repeat' (first |exact ta_n|refine ta_a ?_|refine ta_d ?_));done)));kernel_rfl)|((with_reducible refine callK_own (hclone) (by with_unfolding_all rfl) ?_ ?_);kernel_rfl)|((with_reducible refine callI_insH (d0:=dV (handD default)) (dd:=handD default) (es:=P.map handD) (x:=handD a.hand) ?_ ?_ ?_ ?_ ?_ ?_ ?_ ?_ ?_);kernel_rfl;(focus rfl);(focus rfl);(focus decide);(focus exact hi1);(focus exact hi2);(focus exact hi3);(focus exact hd_ln _))|(with_reducible first |refine fin2_intro ?_|refine aw_skip ?_)|((with_reducible refine aw_condM ?_ ?_);kernel_rfl) );simp only [↓avP,avQ,avR,forall_const,implies_true,Nat.reduceEqDiff,Nat.reduceAdd,Nat.reduceSub,Nat.reduceLeDiff,Nat.reduceLT,reduceCtorEq,avS,s4,peer_h,stC,rowP,cellsC,handS,↓zH_D,ty_H,ty_28,ty_64,ty_22,ty_56,ty_49,hg,hlim]))
    rw [hset]
    refine wk_of [(0,some 0),(1,some 1),(2,some 2),(3,some 3),(4,some 4),(5,some 5)] rfl rfl ?_ ?_
    ·simp only [wkA,reduceIte,Nat.reduceEqDiff]
     (repeat' (first |exact subVs_fl _ _|exact trivial|rfl|exact subVs_d _ _|refine And.intro ?_ ?_))
    ·simp only [wkA,reduceIte,Nat.reduceEqDiff]
     (repeat' (first |exact subVs_fl _ _|exact trivial|rfl|exact subVs_d _ _|refine And.intro ?_ ?_))
 simp only [↓avP,avQ,avR,forall_const,implies_true,reduceIte,Nat.reduceEqDiff,Nat.reduceAdd,Nat.reduceSub,Int.reduceToNat,Nat.reduceLeDiff,Nat.reduceLT,reduceCtorEq,Int.reduceEq,avS,ty_9,ty_5,str_sz,bytesD_str,s4,peer_h,peer_tk,↓rwpP.eq_def,inP,stC,rowP,cellsC,netD_B,pkD_B,actD_V,handS,hd_dr,↓zH_one,↓zH_cells,zH_map,↓zH_D,List.append_nil,ty_H,ty_3,ty_4,ty_28,ty_64,ty_61,ty_38,ty_22,ty_56,ty_49,ty_26,ty_23,ty_52,ty_41,ty_50]
 generalize hLL:setPeer r.peers (i:Int) a.hand=LL at *
 clear hbs
 repeat' (first |(with_reducible first |refine aw_seq ?_|refine aw_block ?_)|((first |((with_reducible refine aw_regionA T_ok ?_ ?_);kernel_rfl)|((with_reducible apply callI_in T_ok Tryz.func47);(focus (dsimp only [Tryz.f47]));(focus rfl);(focus rfl);kernel_rfl;(focus exact of_decide_eq_true (by kernel_rfl));(focus (kernel_rfl));kernel_rfl;intro _)|((with_reducible apply rfI_in Tryz.func48);(focus (dsimp only [Tryz.f48]));(focus (dsimp only [Base.inn,Base.inr]));(focus rfl);(focus rfl);kernel_rfl;(focus exact of_decide_eq_true (by kernel_rfl));kernel_rfl;intro aL L hLp hLa hLb hLt)|((with_reducible refine aw_rfM ?_ ?_);kernel_rfl) );simp only [↓avP,avQ,avR,forall_const,implies_true,Nat.reduceEqDiff,Nat.reduceAdd,reduceCtorEq,ty_28,ty_64,ty_61,ty_22]))
 refine aw_loopI (fun k:Nat=>⟨[(0,.yl 7),(1,.ptr 4 0),(2,.ptr 5 0),(34,.ptr 6 0),(85,.ptr 0 0),(86,.ptr 1 0),(90,.ptr 2 0),(121,.ptr 0 0),(122,.ptr 1 0),(62,.ptr 4 0),(63,.ptr 5 0),(10,vI LL.length),(11,vI k)],(7,.loop L .ready none) :: (6,.cells 61 [.ptr 2 0]) :: (5,.cells 38 (vI a.kind :: vI i :: vI a.to_ :: vI a.at_ :: dV (handD a.hand))) :: (4,.cells 61 [.ptr 2 0]) :: stC LL ⟨r.net.queue++tellPk k i a.hand,r.net.apart⟩,8⟩) (fun k=>k≤LL.length) (fun k=>LL.length - k) 0 (Nat.zero_le _) (wk_of [(0,some 0),(1,some 1),(2,some 2),(3,some 3),(4,some 4),(5,some 5),(6,some 6),(7,some 7)] rfl rfl ?_ ?_) ?_
 ·simp only [wkA,reduceIte,Nat.reduceEqDiff]
  (repeat' (first |exact subVs_fl _ _|exact trivial|rfl|exact subVs_d _ _|refine And.intro ?_ ?_))
 ·simp only [wkA,reduceIte,Nat.reduceEqDiff]
  simp only [tellPk,List.range_zero,List.filter_nil,List.map_nil,List.append_nil]
  (repeat' (first |exact subVs_fl _ _|exact trivial|rfl|exact subVs_d _ _|refine And.intro ?_ ?_))
 intro k hk
 rcases Nat.lt_or_ge k LL.length with hlt|hge
 ·have hd2:=ltd hlt
  by_cases hki:k=i
  ·have hki':((k:Int) != (i:Int))=false:=by simpa using congrArg (fun n:Nat=>(n:Int)) hki
   have hts:tellPk (k+1) (i:Int) a.hand=tellPk k (i:Int) a.hand:=by rw [tellPk_succ,if_neg (by omega),List.append_nil]
   repeat' (first |(with_reducible refine aw_seq ?_)|((with_reducible refine twoG_intro ?_ ?_)<;>intro h<;>first |contradiction|((try simp only [h,avT]);((guard_hyp h:false=false;clear h))))|(with_reducible first |refine two_t ?_|refine two_f ?_)|((with_reducible refine And.intro ?_ ?_);(focus (first |omega|rfl)))|(with_reducible refine aw_block ?_)|((first |((with_reducible refine aw_regionA T_ok ?_ ?_);kernel_rfl)|((with_reducible refine aw_drawnX [0,1,2,3,4,5,6,7,8,9,10,11,12,13] [14,15,16] T_ok ?_ ?_ ?_ ?_);kernel_rfl;kernel_rfl;(focus (decide+kernel)))|((with_reducible refine callK_intro (hms) ?_ ?_ ?_);(focus (((repeat' (first |exact ta_n|refine ta_a ?_));done)));kernel_rfl)|(with_reducible refine aw_skip ?_)|((with_reducible refine aw_condM ?_ ?_);kernel_rfl) );simp only [↓avP,avQ,avR,forall_const,implies_true,Nat.reduceEqDiff,Nat.reduceAdd,Nat.reduceLeDiff,reduceCtorEq,ty_9,ty_5,str_sz,bytesD_str,stC,rowP,cellsC,handS,ty_H,ty_3,ty_4,ty_38,ty_52,ty_50,hd2,hki'];try simp (disch:=omega) only [av_w]))
   refine ⟨k+1,by omega,by dsimp only;omega,wk_of [(0,some 0),(1,some 1),(2,some 2),(3,some 3),(4,some 4),(5,some 5),(6,some 6),(7,some 7)] rfl rfl ?_ ?_⟩
   ·simp only [wkA,reduceIte,Nat.reduceEqDiff]
    (repeat' (first |exact subVs_fl _ _|exact trivial|rfl|exact subVs_d _ _|refine And.intro ?_ ?_))
   ·simp only [wkA,reduceIte,Nat.reduceEqDiff,hts]
    (repeat' (first |exact subVs_fl _ _|exact trivial|rfl|exact subVs_d _ _|refine And.intro ?_ ?_))
  ·have hki':((k:Int) != (i:Int))=true:=by simpa using fun e:(k:Int)=i=>hki (by omega)
   have hts:tellPk (k+1) (i:Int) a.hand=tellPk k (i:Int) a.hand++[⟨i,k,msg a.hand⟩]:=by rw [tellPk_succ,if_pos (by omega)]
   obtain ⟨hnk,hqk⟩:=hnet k (by omega)
   have hsnd:=nsend_spec ⟨r.net.queue++tellPk k i a.hand,r.net.apart⟩ ⟨i,k,msg a.hand⟩ ⟨by simp only [List.length_append];omega,hok.2⟩
   obtain ⟨hs1,hs2⟩:=send_ok (p:=⟨i,k,msg a.hand⟩) hnk (packetB_of hn24 (by omega) (by omega) (by omega) (by omega) (by omega) (by have:=msg_len a.hand;omega)) (by simp only [List.length_append];omega)
   rw [hs1,hs2] at hsnd
   repeat' (first |(with_reducible refine aw_seq ?_)|((with_reducible refine twoG_intro ?_ ?_)<;>intro h<;>first |contradiction|((try simp only [h,avT]);((guard_hyp h:true=true;clear h))))|(with_reducible first |refine two_t ?_|refine two_f ?_)|((with_reducible refine And.intro ?_ ?_);(focus (first |omega|rfl)))|(with_reducible refine aw_block ?_)|((first |((with_reducible refine aw_regionA T_ok ?_ ?_);kernel_rfl)|((with_reducible refine aw_drawnX [0,1,2,3,4,5,6,7,8,9,10,11,12,13] [14,15,16] T_ok ?_ ?_ ?_ ?_);kernel_rfl;kernel_rfl;(focus (decide+kernel)))|((with_reducible refine aw_drawnEA (id:=3) [(11,10)] [] T_ok ?_ ?_ ?_ ?_ ?_);kernel_rfl;kernel_rfl;(focus (decide+kernel));kernel_rfl)|((with_reducible apply yieldI_in 0 0 (hL1:=hLp) (hL2:=hLa) (hL3:=hLb) (hsz:=hLt.1));(focus rfl);(focus rfl);(focus rfl);kernel_rfl;(focus (dsimp only [Base.inn,Base.inr]));(focus exact (fun t ht=>(hLt.2 t ht).trans (by rw [Nat.zero_add];rfl)));kernel_rfl;intro _)|((with_reducible refine callK_intro (hms) ?_ ?_ ?_);(focus (((repeat' (first |exact ta_n|refine ta_a ?_));done)));kernel_rfl)|((with_reducible refine callK_intro (hsnd) ?_ ?_ ?_);(focus (with_unfolding_all rfl));kernel_rfl)|((with_reducible refine callI_spec (hno0) ?_ ?_ ?_ ?_);(focus (with_unfolding_all rfl));kernel_rfl;kernel_rfl)|(with_reducible first |refine fin2_intro ?_|refine aw_skip ?_)|((with_reducible refine aw_condM ?_ ?_);kernel_rfl) );simp only [↓avP,avQ,avR,forall_const,implies_true,Nat.reduceEqDiff,Nat.reduceAdd,Nat.reduceSub,Nat.reduceLeDiff,Nat.reduceLT,reduceCtorEq,↓earlyL.eq_def,ty_9,ty_5,str_sz,bytesD_str,stC,rowP,cellsC,netD_B,handS,ty_H,ty_3,ty_4,ty_28,ty_64,ty_61,ty_38,ty_26,ty_52,ty_50,hd2,hki'];try simp (disch:=omega) only [av_w]))
   refine ⟨k+1,by omega,by dsimp only;omega,wk_of [(0,some 0),(1,some 1),(2,some 2),(3,some 3),(4,some 4),(5,some 5),(6,some 6),(7,some 7)] rfl rfl ?_ ?_⟩
   ·simp only [wkA,reduceIte,Nat.reduceEqDiff]
    (repeat' (first |exact subVs_fl _ _|exact trivial|rfl|exact subVs_d _ _|refine And.intro ?_ ?_))
   ·simp only [wkA,reduceIte,Nat.reduceEqDiff,hts,← List.append_assoc]
    (repeat' (first |exact subVs_fl _ _|exact trivial|rfl|exact subVs_d _ _|refine And.intro ?_ ?_))
 ·obtain rfl:k=LL.length:=by omega
  have hd2:=ged (Nat.le_refl LL.length)
  repeat' (first |(with_reducible first |refine aw_seq ?_|refine two_f ?_)|((first |((with_reducible refine aw_regionA T_ok ?_ ?_);kernel_rfl)|(with_reducible refine aw_exit ?_)|((with_reducible refine aw_condM ?_ ?_);kernel_rfl) );simp only [↓avP,avQ,avR,forall_const,implies_true,Nat.reduceEqDiff,Nat.reduceSub,Nat.reduceLeDiff,reduceCtorEq,avS,stC,rowP,cellsC,hd2]))
  rw [← hLn]
  refine wk_of [(0,some 0),(1,some 1),(2,some 2),(3,some 3)] rfl rfl ?_ ?_
  ·simp only [wkA,reduceIte,Nat.reduceEqDiff]
   (repeat' (first |exact subVs_fl _ _|exact trivial|rfl|exact subVs_d _ _|refine And.intro ?_ ?_))
  ·simp only [wkA,reduceIte,Nat.reduceEqDiff]
   (repeat' (first |exact subVs_fl _ _|exact trivial|rfl|exact subVs_d _ _|refine And.intro ?_ ?_))

theorem sync_net {n0:NetP} {i j:Int} {m:Nat} (hn:netChk n0=0) (hm:m≤24) (hi:0≤i) (hi2:i < m) (hj:0≤j) (hj2:j < m) (hij:i≠j) (P:List Hd) (hq:n0.queue.length+P.length≤4096):∀ k,k≤P.length→netChk ⟨n0.queue++syncPk (P.take k) i j,n0.apart⟩=0
 |0,_=>by simpa [syncPk] using hn
 |k+1,hk=>by
   have h1:=sync_net hn hm hi hi2 hj hj2 hij P hq k (by omega)
   rw [List.take_succ_eq_append_getElem (by omega)]
   unfold syncPk at h1 ⊢
   rw [List.map_append,← List.append_assoc]
   exact netChk_snoc h1 (packetB_of hm hi hi2 hj hj2 hij (by have:=msg_len P[k];omega)) (by simp only [List.length_append,List.length_map,List.length_take];omega)
theorem sync_ok (w:World) (F:Ft) (d:Deferred) (gh:Nat→Value) (r:RoomP) (a:ActP) (hin:inR r a.peer=true) (hin2:inR r a.to_=true) (hne:a.peer≠a.to_)
  (hp:∀ l∈r.peers,l.length≤1000∧∀ x∈l,hOk x) (hn:netChk r.net=0) (hq:r.net.queue.length≤3000) (hn24:r.peers.length≤24) (hok:okNet r.net):
  callI Tryz.prog (Bdo w F d gh) 18 [.ptr 2 0,.agg (dV (actD a))] (some 37) (sAt 18 a r) (fun s'=>Wk Tryz.prog (Bdo w F d gh) s' (sTo ⟨r.peers,⟨r.net.queue++syncPk (r.peers.getD a.peer.toNat []) a.peer a.to_,r.net.apart⟩⟩)) ⟨⟩:=by
 have hno:=gneed_spec 1
 have hno0:=gneed_spec 0
 unfold inR at hin hin2
 rw [Bool.and_eq_true] at hin hin2
 obtain ⟨hd0,hd1⟩:=hin
 obtain ⟨he0,he1⟩:=hin2
 have h0:=of_decide_eq_true hd0
 have h1:=of_decide_eq_true hd1
 have g0:=of_decide_eq_true he0
 have g1:=of_decide_eq_true he1
 have hneb:(a.peer != a.to_)=true:=by simpa using hne
 obtain ⟨i,hi⟩:∃ i:Nat,a.peer=i:=⟨a.peer.toNat,by omega⟩
 have hil:i < r.peers.length:=by omega
 have hmem:r.peers.getD i []∈r.peers:=mem_getD hil
 obtain ⟨p1,p3⟩:=hp _ hmem
 have hg:=getD_rowP r.peers i hil
 rw [hi] at hd0 hd1 hneb hne h0 h1 ⊢
 rw [Int.toNat_natCast]
 generalize hP:r.peers.getD i []=P at *
 have hnet:=sync_net (m:=r.peers.length) hn hn24 h0 h1 g0 g1 hne P (by omega)
 repeat' (first |(with_reducible refine aw_seq ?_)|((with_reducible refine And.intro ?_ ?_);(focus (omega)))|(with_reducible refine aw_block ?_)|((first |((with_reducible refine aw_regionA T_ok ?_ ?_);kernel_rfl)|((with_reducible refine aw_drawnA T_ok ?_ ?_ ?_ ?_);kernel_rfl;kernel_rfl;(focus (decide+kernel)))|((with_reducible apply callI_in T_ok Tryz.func18);(focus (dsimp only [Tryz.f18]));(focus rfl);(focus rfl);kernel_rfl;(focus exact of_decide_eq_true (by kernel_rfl));(focus (kernel_rfl));kernel_rfl;intro _)|((with_reducible apply callI_in T_ok Tryz.func43);(focus (dsimp only [Tryz.f43]));(focus rfl);(focus rfl);kernel_rfl;(focus exact of_decide_eq_true (by kernel_rfl));(focus (kernel_rfl));kernel_rfl;intro _)|((with_reducible refine callI_spec (hno) ?_ ?_ ?_ ?_);(focus (with_unfolding_all rfl));kernel_rfl;kernel_rfl)|((with_reducible apply callI_in T_ok Tryz.func47);(focus (dsimp only [Tryz.f47]));(focus rfl);(focus rfl);kernel_rfl;(focus exact of_decide_eq_true (by kernel_rfl));(focus (kernel_rfl));kernel_rfl;intro _)|((with_reducible apply rfI_in Tryz.func50);(focus (dsimp only [Tryz.f50]));(focus (dsimp only [Base.inn,Base.inr]));(focus rfl);(focus rfl);kernel_rfl;(focus exact of_decide_eq_true (by kernel_rfl));kernel_rfl;intro aL L hLp hLa hLb hLt)|((with_reducible refine aw_rfM ?_ ?_);kernel_rfl) );simp only [↓avP,avQ,avR,forall_const,implies_true,Nat.reduceEqDiff,Nat.reduceAdd,Nat.reduceSub,Nat.reduceLeDiff,reduceCtorEq,avS,peer_h,stC,rowP,cellsC,actD_V,ty_3,ty_28,ty_64,ty_61,ty_38,ty_22,ty_56,ty_49,hd0,hd1,he0,he1,hi,hneb,hg]))
 refine aw_loopI (fun k:Nat=>⟨[(0,.yl 7),(1,.ptr 4 0),(2,.ptr 5 0),(15,.d (handsD P)),(16,vI P.length),(17,vI k),(35,.ptr 6 0),(86,.ptr 0 0),(87,.ptr 1 0),(91,.ptr 2 0),(122,.ptr 0 0),(123,.ptr 1 0),(63,.ptr 4 0),(64,.ptr 5 0)],(7,.loop L .ready none) :: (6,.cells 61 [.ptr 2 0]) :: (5,.cells 38 (vI a.kind :: vI i :: vI a.to_ :: vI a.at_ :: dV (handD a.hand))) :: (4,.cells 61 [.ptr 2 0]) :: stC r.peers ⟨r.net.queue++syncPk (P.take k) i a.to_,r.net.apart⟩,8⟩) (fun k=>k≤P.length) (fun k=>P.length - k) 0 (Nat.zero_le _) (wk_of [(0,some 0),(1,some 1),(2,some 2),(3,some 3),(4,some 4),(5,some 5),(6,some 6),(7,some 7)] rfl rfl ?_ ?_) ?_
 ·simp only [wkA,reduceIte,Nat.reduceEqDiff]
  (repeat' (first |exact subVs_fl _ _|exact trivial|rfl|exact subVs_d _ _|refine And.intro ?_ ?_))
 ·simp only [wkA,reduceIte,Nat.reduceEqDiff]
  simp only [syncPk,List.take_zero,List.map_nil,List.append_nil]
  (repeat' (first |exact subVs_fl _ _|exact trivial|rfl|exact subVs_d _ _|refine And.intro ?_ ?_))
 intro k hk
 rcases Nat.lt_or_ge k P.length with hlt|hge
 ·have hd2:=ltd hlt
  have hkm:P.getD k default∈P:=mem_getD hlt
  have hms:=gmessage_spec (P.getD k default) (p3 _ hkm)
  have hml:(msg (P.getD k default)).length≤140737488351232:=by have:=msg_len (P.getD k default);omega
  have hts:syncPk (P.take (k+1)) (i:Int) a.to_=syncPk (P.take k) (i:Int) a.to_++[⟨i,a.to_,msg (P.getD k default)⟩]:=by
   rw [List.take_succ_eq_append_getElem hlt]
   unfold syncPk
   rw [List.map_append,getD_atH hlt]
   rfl
  have hnk:=hnet k (by omega)
  have hlk:(syncPk (P.take k) (i:Int) a.to_).length≤k:=by unfold syncPk;rw [List.length_map,List.length_take];omega
  have hsnd:=nsend_spec ⟨r.net.queue++syncPk (P.take k) i a.to_,r.net.apart⟩ ⟨i,a.to_,msg (P.getD k default)⟩ ⟨by simp only [List.length_append];omega,hok.2⟩
  obtain ⟨hs1,hs2⟩:=send_ok (p:=⟨i,a.to_,msg (P.getD k default)⟩) hnk (packetB_of hn24 (by omega) (by omega) (by omega) (by omega) hne (by have:=msg_len (P.getD k default);omega)) (by simp only [List.length_append];omega)
  rw [hs1,hs2] at hsnd
  repeat' (first |(with_reducible first |refine aw_seq ?_|refine two_t ?_|refine two_f ?_)|((with_reducible refine And.intro ?_ ?_);(focus (first |omega|rfl)))|(with_reducible refine aw_block ?_)|((first |((with_reducible refine aw_regionA T_ok ?_ ?_);kernel_rfl)|((with_reducible refine aw_drawnX [0,1,2,3,4,5,6,7,8] [9,10] T_ok ?_ ?_ ?_ ?_);kernel_rfl;kernel_rfl;(focus (decide+kernel)))|((with_reducible refine aw_drawnEA (id:=3) [(11,10)] [] T_ok ?_ ?_ ?_ ?_ ?_);kernel_rfl;kernel_rfl;(focus (decide+kernel));kernel_rfl)|((with_reducible apply yieldI_in 0 0 (hL1:=hLp) (hL2:=hLa) (hL3:=hLb) (hsz:=hLt.1));(focus rfl);(focus rfl);(focus rfl);kernel_rfl;(focus (dsimp only [Base.inn,Base.inr]));(focus exact (fun t ht=>(hLt.2 t ht).trans (by rw [Nat.zero_add];rfl)));kernel_rfl;intro _)|((with_reducible refine callK_intro (hms) ?_ ?_ ?_);(focus (((repeat' (first |exact ta_n|refine ta_a ?_));done)));kernel_rfl)|((with_reducible refine callK_intro (hsnd) ?_ ?_ ?_);(focus (with_unfolding_all rfl));kernel_rfl)|((with_reducible refine callI_spec (hno0) ?_ ?_ ?_ ?_);(focus (with_unfolding_all rfl));kernel_rfl;kernel_rfl)|(with_reducible first |refine fin2_intro ?_|refine aw_skip ?_)|((with_reducible refine aw_condM ?_ ?_);kernel_rfl) );simp only [↓avP,avQ,avR,forall_const,implies_true,Nat.reduceEqDiff,Nat.reduceAdd,Nat.reduceSub,Nat.reduceLeDiff,Nat.reduceLT,reduceCtorEq,↓earlyL.eq_def,ty_9,ty_5,str_sz,bytesD_str,stC,rowP,cellsC,netD_B,handS,hd_dr,↓zH_one,zH_map,ty_H,ty_3,ty_28,ty_64,ty_61,ty_38,ty_49,ty_26,ty_52,ty_50,hd2];try simp (disch:=omega) only [av_w]))
  refine ⟨k+1,by omega,by dsimp only;omega,wk_of [(0,some 0),(1,some 1),(2,some 2),(3,some 3),(4,some 4),(5,some 5),(6,some 6),(7,some 7)] rfl rfl ?_ ?_⟩
  ·simp only [wkA,reduceIte,Nat.reduceEqDiff]
   (repeat' (first |exact subVs_fl _ _|exact trivial|rfl|exact subVs_d _ _|refine And.intro ?_ ?_))
  ·simp only [wkA,reduceIte,Nat.reduceEqDiff,hts,← List.append_assoc]
   (repeat' (first |exact subVs_fl _ _|exact trivial|rfl|exact subVs_d _ _|refine And.intro ?_ ?_))
 ·obtain rfl:k=P.length:=by omega
  have hd2:=ged (Nat.le_refl P.length)
  repeat' (first |(with_reducible first |refine aw_seq ?_|refine two_f ?_)|((first |((with_reducible refine aw_regionA T_ok ?_ ?_);kernel_rfl)|(with_reducible refine aw_exit ?_)|((with_reducible refine aw_condM ?_ ?_);kernel_rfl) );simp only [↓avP,avQ,avR,forall_const,implies_true,Nat.reduceEqDiff,Nat.reduceSub,Nat.reduceLeDiff,reduceCtorEq,avS,stC,rowP,cellsC,hd2]))
  rw [List.take_length]
  refine wk_of [(0,some 0),(1,some 1),(2,some 2),(3,some 3)] rfl rfl ?_ ?_
  ·simp only [wkA,reduceIte,Nat.reduceEqDiff]
   (repeat' (first |exact subVs_fl _ _|exact trivial|rfl|exact subVs_d _ _|refine And.intro ?_ ?_))
  ·simp only [wkA,reduceIte,Nat.reduceEqDiff]
   (repeat' (first |exact subVs_fl _ _|exact trivial|rfl|exact subVs_d _ _|refine And.intro ?_ ?_))

section
variable {P:Program} {B:Base} {T:Tab} {ops:Array Oper} {o:Oper} {s:St} {K:St→Prop} {Q:AQ} {D0:List Deferred}
theorem slot_okD {x:Operand} {asA:Array Operand} {ts:Array TypeId} (hop:o.op= .call ⟨.value x,asA,ts⟩) {fv:V} {vs:List V} (hF:∀ E a,Gam P B s E a→RV E fv (a.eval x)) (hA:∀ E a,Gam P B s E a→RVL E vs (asA.toList.map a.eval)) (h:slotK P B fv vs o.dst s K) {Q:Exit→Act→World→Prop} {N:Act→World→Prop}
  (hN:∀ (a0:Act) (u:Value) (s':St) (E:Env),a0.defers=D0→K s'→Gam P B s' E (a0.put o.dst u)→N (a0.put o.dst u) E.w):∀ E a,Gam P B s E a→a.defers=D0→o.wpIn (fen B.r) 0 P a E.w N Q:=by
 intro E a hG hD
 have hargs:=hA E a hG
 have hmap:asA.map a.eval=(asA.toList.map a.eval).toArray:=by rw [← Array.toList_map,Array.toArray_toList]
 have hfv:=hF E a hG
 have fin:∀ (f:FuncId) (cap:List V) (us:List Value),callI P B f (vs++cap) o.dst s K ⟨⟩→a.eval x= .func (.func f) #[] us.toArray→RVL E cap us→o.wpIn (fen B.r) 0 P a E.w N Q:=by
  intro f cap us hc hv hu
  have hrun:(execOp a.eval o).run P E.w= .ok (.enter f (asA.toList.map a.eval++us).toArray) E.w:=by
   have:(asA.toList.map a.eval++us).toArray=asA.map a.eval++us.toArray:=by rw [hmap];simp
   rw [this]
   simp [execOp,hop,resolve,hv,Deferred.ofValue,invoke,run_callFunc hc.1]
  refine Upon.wpIn (R:=fun u w'=>∃ E' s',E'.w=w'∧Gam P B s' E' (a.put o.dst u)∧K s') ?_ (fun v w' ⟨E',s',e,hG',hK⟩=>by subst e;exact hN a _ s' E' hD hK hG')
  rw [hrun]
  simp only [Upon]
  exact (hc.2 E a _ hG (RVL.append hargs hu)).mono fun e w' ⟨u,E',s',h1,h2⟩=>⟨u,h1,E',s',h2⟩
 unfold slotK at h
 split at h<;>try exact h.elim
 ·simp only [RV] at hfv
  obtain ⟨us,h1,h2⟩:=hfv
  exact fin _ _ us h h1 h2
 ·obtain ⟨⟨rfl,rfl⟩,h⟩:=h
  simp only [RV,RD] at hfv
  exact fin _ [] [] (by simpa using h) hfv (by simp [RVL])
 ·simp only [RV] at hfv
  obtain ⟨h1,l,h2⟩:=hfv
  obtain ⟨hr,hy⟩:=h
  obtain ⟨fn,tmps,assign,body,g1,g2⟩:=hy E a l _ hG (by rw [h1,h2]) hargs
  rw [hr]
  refine ⟨fun _ _=>trivial,?_⟩
  have hrun:((Oper.semAt (fen none).round a.eval o).run P E.w)= .ok (.round l fn tmps assign body) E.w:=by
   show (execOp a.eval o).run P E.w=_
   rw [← g1,← hmap]
   simp [execOp,hop,resolve,h2,Deferred.ofValue,invoke]
  rw [hrun]
  refine ⟨fun h=>(by cases h),?_⟩
  refine g2.mono ?_
  rintro e w' ⟨u,E',s',rfl,rfl,hG',hK⟩
  exact hN a _ s' E' hD hK hG'
 ·obtain ⟨f,fst,cap,h1,h2,h3⟩:=h E a _ _ hG hfv hargs
  have hrun:(execOp a.eval o).run P E.w= .ok (.enter f (fst++(asA.toList.map a.eval).toArray++cap)) E.w:=by
   rw [← hmap]
   simp [execOp,hop,resolve,h1,Deferred.ofValue,invoke,run_callFunc h2]
  refine Upon.wpIn (R:=fun u w'=>∃ E' s',E'.w=w'∧Gam P B s' E' (a.put o.dst u)∧K s') ?_ (fun v w' ⟨E',s',e,hG',hK⟩=>by subst e;exact hN a _ s' E' hD hK hG')
  rw [hrun]
  simp only [Upon]
  exact h3.mono fun e w' ⟨u,E',s',h1,h2⟩=>⟨u,h1,E',s',h2⟩
theorem rwp_listD (hT:TabOk P T) (hops:∀ o∈ops.toList,opOk B.N o=true) {Q:Exit→Act→World→Prop}:∀ (l:List Oper) (s:St) (K:St→Prop),(l.all (opOk B.N))=true→rwp P B T ops l s K→(∀ s',K s'→∀ E a,Gam P B s' E a→a.defers=D0→Q .normal a E.w)→∀ E a,Gam P B s E a→a.defers=D0→wpListIn (fen B.r) 0 P ops Q l a E.w
 |[],s,K,_,h,hQ,E,a,hG,hD=>hQ s h E a hG hD
 |o :: l,s,K,ho,h,hQ,E,a,hG,hD=>by
   simp only [List.all_cons,Bool.and_eq_true] at ho
   have pd:∀ (a:Act) (d:Option Tmp) (u:Value),a.defers=D0→(a.put d u).defers=D0:=fun a d u h=>by cases d<;>exact h
   have plain:sop P T ops o s (fun s'=>rwp P B T ops l s' K)→wpListIn (fen B.r) 0 P ops Q (o :: l) a E.w:=fun h=>by
    obtain ⟨s',hK,hd⟩:=sop_ok (B:=B) hT hops ho.1 h
    have ih:=rwp_listD hT hops l s' K ho.2 hK hQ
    obtain ⟨h1,h2⟩:=hd E a hG
    unfold wpListIn
    cases hw:Region.wanted o (yielded ops a.tmps) with
    |true=>
      rw [if_pos rfl]
      refine (h1 hw).wpIn fun v w' ⟨E',e,hG'⟩=>?_
      subst e
      exact ih E' _ hG' (pd _ _ _ hD)
    |false=>
      rw [if_neg (by simp)]
      exact ⟨fun _ _=>trivial,ih E _ (h2 hw) (pd _ _ _ hD)⟩
   have gen:∀ op,o.op=op→Region.wanted o (yielded ops a.tmps)=true→genK P B op o.dst s (fun s'=>rwp P B T ops l s' K) ⟨⟩→wpListIn (fen B.r) 0 P ops Q (o :: l) a E.w:=fun op hop hw h=>by
    unfold wpListIn
    rw [if_pos hw]
    refine (h o E a hop rfl ho.1 hG).wpIn fun v w' ⟨E',s',e,hG',hK⟩=>?_
    subst e
    exact rwp_listD hT hops l s' K ho.2 hK hQ E' _ hG' (pd _ _ _ hD)
   have hm:=opOk_mem ho.1
   have hev:∀ E a,Gam P B s E a→∀ y∈o.op.operands,RV E (ev (lkT s.tm) y) (a.eval y):=fun E a hG y hy=>ev_ok hG.2 y (hm y hy)
   unfold rwp at h
   split at h
   ·rename_i hg
    have hw:Region.wanted o (yielded ops a.tmps)=true:=by simp [Region.wanted,hg]
    split at h
    ·rename_i t asA ts hop
     unfold wpListIn
     rw [if_pos hw]
     exact slot_okD (D0:=D0) hop (fun E a hG=>hev E a hG (.tmp t) (by simp [hop,Op.operands,Call.operands])) (fun E a hG=>RVL.of_forall _ (fun x hx=>hev E a hG x (by simp only [hop,Op.operands,Call.operands];simp [Array.mem_toList_iff.1 hx]))) h (fun a0 u s' E' hD0 hK hG'=>rwp_listD hT hops l s' K ho.2 hK hQ E' _ hG' (pd _ _ _ hD0)) E a hG hD
    ·rename_i f asA ts hop
     unfold wpListIn
     rw [if_pos hw]
     exact slot_okD (D0:=D0) hop (fv:= .d (.c (.func (.func f) #[] #[]))) (fun E a hG=>hev E a hG (.func f) (by simp [hop,Op.operands,Call.operands])) (fun E a hG=>RVL.of_forall _ (fun x hx=>hev E a hG x (by simp only [hop,Op.operands,Call.operands];simp [Array.mem_toList_iff.1 hx]))) ⟨⟨rfl,rfl⟩,h⟩ (fun a0 u s' E' hD0 hK hG'=>rwp_listD hT hops l s' K ho.2 hK hQ E' _ hG' (pd _ _ _ hD0)) E a hG hD
    ·rename_i t x hop;exact gen _ hop hw h
    ·rename_i x y hop;exact gen _ hop hw h
    ·rename_i x hop;exact gen _ hop hw h
    ·exact plain h
   ·rename_i g hg
    split at h
    ·rename_i t asA ts hop
     split at h<;>try exact h.elim
     rename_i b hgo
     have hwb:=gOf_ok (P:=P) (o:=o) hops hgo hG hg
     unfold wpListIn
     cases b with
     |true=>
       obtain ⟨hs,h⟩:=h.1 rfl
       simp only [allP] at hs
       rw [if_pos hwb]
       exact slot_okD (D0:=D0) hop (fun E a hG=>strip_ok (b:=true) rfl hs.1 (hev E a hG (.tmp t) (by simp [hop,Op.operands,Call.operands]))) (fun E a hG=>RVL.of_forall (e:=fun x=>strip (ev (lkT s.tm) x)) _ (fun x hx=>strip_ok (b:=true) rfl (allP_mem hs.2 _ (List.mem_map_of_mem hx)) (hev E a hG x (by simp only [hop,Op.operands,Call.operands];simp [Array.mem_toList_iff.1 hx])))) h (fun a0 u s' E' hD0 hK hG'=>rwp_listD hT hops l s' K ho.2 hK hQ E' _ hG' (pd _ _ _ hD0)) E a hG hD
     |false=>
       have h:=h.2 rfl
       rw [if_neg (by rw [hwb];simp)]
       refine ⟨fun _ _=>trivial,rwp_listD hT hops l _ K ho.2 h hQ E _ ⟨hG.1,hG.2.put (by simp [RV]) ?_⟩ (pd _ _ _ hD)⟩
       intro t' e
       have:=ho.1
       simp only [opOk,Bool.and_eq_true] at this
       have:=this.2
       rw [e] at this
       simpa using this
    ·exact plain h
def AWD (P:Program) (B:Base) (c:Code) (Q:AQ) (_:Tk c Q) (s:St):Prop:=∀ E a,Gam P B s E a→a.defers=[]→c.wpIn (fen B.r) 0 P (fun x a w=>∃ E s,E.w=w∧Gam P B s E a∧a.defers=[]∧Q x s) a E.w
theorem awd_regionA {id:Nat} (hT:TabOk P T) (hl:(ops.toList.all (opOk B.N))=true) (h:rwp P B T ops ops.toList s (Q .normal)):AWD P B (.region id ops false) Q ⟨⟩ s:=fun E a hG hD=>by
 obtain ⟨l,rfl⟩:∃ l:List Oper,ops=l.toArray:=⟨ops.toList,by simp⟩
 simp only [List.toList_toArray] at hl h
 exact wpIn_region_lit (rwp_listD (D0:=[]) hT (fun o ho=>List.all_eq_true.1 hl o ho) l s _ hl h (fun s' hs E a hG hD=>⟨E,s',rfl,hG,hD,hs⟩) E a hG hD)
theorem awd_seq {x y:Code} (h:AWD P B x (fun e s'=>match e with| .normal=>AWD P B y Q ⟨⟩ s'|e=>Q e s') ⟨⟩ s):AWD P B (.seq x y) Q ⟨⟩ s:=fun E a hG hD=>by
 refine wpIn_seq (Code.wpIn_mono ?_ (h E a hG hD))
 rintro e a' w' ⟨E',s',rfl,hG',hD',hq⟩
 cases e<;>first |exact hq E' a' hG' hD'|exact ⟨E',s',rfl,hG',hD',hq⟩
theorem awd_skip (h:Q .normal s):AWD P B .skip Q ⟨⟩ s:=fun E a hG hD=>wpIn_skip ⟨E,s,rfl,hG,hD,h⟩
theorem awd_ret (h:Q .ret s):AWD P B .ret Q ⟨⟩ s:=fun E a hG hD=>wpIn_ret ⟨E,s,rfl,hG,hD,h⟩
theorem awd_cond {c:Operand} {x y:Code} {b:Bool} (hc:ev (lkT s.tm) c= .d (.c (.bool b))) (hco:constOk B.N c=true) (h1:b=true→AWD P B x Q ⟨⟩ s) (h2:b=false→AWD P B y Q ⟨⟩ s):AWD P B (.cond c x y) Q ⟨⟩ s:=fun E a hG hD=>by
 have hv:=ev_ok hG.2 c hco
 rw [hc] at hv
 simp only [RV,RD] at hv
 exact wpIn_cond_split hv (fun hb=>h1 hb E a hG hD) (fun hb=>h2 hb E a hG hD)
structure Tkx (c:Code) (R:Exit→Act→World→Prop):Type where
def AWx (P:Program) (B:Base) (c:Code) (R:Exit→Act→World→Prop) (_:Tkx c R) (s:St):Prop:=∀ E a,Gam P B s E a→a.defers=[]→c.wpIn (fen B.r) 0 P R a E.w
theorem awx_seq {x y:Code} {R:Exit→Act→World→Prop} (hR:∀ s' E a,Q .ret s'→Gam P B s' E a→a.defers=[]→R .ret a E.w)
  (h:AWD P B x (fun e s'=>match e with| .normal=>AWx P B y R ⟨⟩ s'| .ret=>Q .ret s'|_=>False) ⟨⟩ s):AWx P B (.seq x y) R ⟨⟩ s:=fun E a hG hD=>by
 refine wpIn_seq (Code.wpIn_mono ?_ (h E a hG hD))
 rintro e a' w' ⟨E',s',rfl,hG',hD',hq⟩
 cases e with
 |normal=>exact hq E' a' hG' hD'
 |ret=>exact hR s' E' a' hq hG' hD'
 |_=>exact hq.elim
end
abbrev dOf (f:FuncId) (X Y:Nat):Deferred:={ target:= .fn (.func f) #[.pointer (some ⟨X,0,none⟩),.pointer (some ⟨Y,0,none⟩)],args:= #[] }
abbrev gOfX (X Y:Nat):Nat→Value:=fun k=>if k=0 then .pointer (some ⟨X,0,none⟩) else if k=1 then .pointer (some ⟨Y,0,none⟩) else undef
abbrev Bdf (w:World) (F:Ft) (N:Nat) (f:FuncId) (X Y:Nat):Base:=⟨w,fun _=>False,F,N,gOfX X Y,none,fun _=>False,[dOf f X Y]⟩
section
variable {P:Program}
theorem lkT_append (l m:List (Nat×V)) (t:Nat) (hl:∀ p∈m,p.1≠t):lkT (l++m) t=lkT l t:=by
 induction l with
 |nil=>
   have:∀ m:List (Nat×V),(∀ p∈m,p.1≠t)→lkT m t= .any:=by
    intro m
    induction m with
    |nil=>intro _;rfl
    |cons q m ih=>
      obtain ⟨u,x⟩:=q
      intro hm
      simp only [lkT]
      rw [if_neg (fun e=>hm (u,x) (by simp) e.symm)]
      exact ih fun q hq=>hm q (by simp [hq])
   exact this m hl
 |cons q l ih=>obtain ⟨u,x⟩:=q;simp only [List.cons_append,lkT,ih]
theorem awx_defer {w:World} {F:Ft} {N id t x y n0 n1:Nat} {f:FuncId} {c2:Code} {R:Exit→Act→World→Prop} {o0 o1:Oper} {tm:List (Nat×V)} {st:List (Nat×Blk)} {nx:Nat}
  (h0:o0.op= .makeFunc (.func f) #[] #[.tmp x,.tmp y]) (h0d:o0.dst=some t) (h0g:o0.guard=none) {tys:Array TypeId} (h1:o1.op= .defer ⟨.value (.tmp t),#[],tys⟩) (h1d:o1.dst=none) (h1g:o1.guard=none)
  (hx:lkT tm x= .ptr n0 0) (hy:lkT tm y= .ptr n1 0) (hxN:x < N) (hyN:y < N) (htN:t < N) (htm:(tm.all fun p=>decide (p.1 < N))=true)
  (h:∀ X Y E a,Gam P (Bdf w F N f X Y) ⟨setT t .any tm++[(N,.ptr n0 0),(N+1,.ptr n1 0)],st,nx⟩ E a→c2.wpIn (fen none) 0 P R a E.w):
  AWx P ⟨w,fun _=>False,F,N,fun _=>undef,none,fun _=>False,[]⟩ (.seq (.region id #[o0,o1] false) c2) R ⟨⟩ ⟨tm,st,nx⟩:=fun E a hG hD=>by
 have hvx:=hG.2.tm x
 have hvy:=hG.2.tm y
 rw [show lkT (St.mk tm st nx).tm x= .ptr n0 0 from hx] at hvx
 rw [show lkT (St.mk tm st nx).tm y= .ptr n1 0 from hy] at hvy
 unfold vOf at hvx hvy
 rw [if_pos hxN] at hvx
 rw [if_pos hyN] at hvy
 simp only [RV] at hvx hvy
 obtain ⟨X,x1,x2⟩:=hvx
 obtain ⟨Y,y1,y2⟩:=hvy
 refine wpIn_seq (wpIn_region_lit (l:=[o0,o1]) ?_)
 have hw0:∀ a:Act,Region.wanted o0 (yielded #[o0,o1] a.tmps)=true:=fun a=>by simp [Region.wanted,h0g]
 have hw1:∀ a:Act,Region.wanted o1 (yielded #[o0,o1] a.tmps)=true:=fun a=>by simp [Region.wanted,h1g]
 unfold wpListIn
 rw [if_pos (hw0 a)]
 refine ⟨fun _ _=>trivial,?_⟩
 have r0:(Oper.semAt (fen none).round a.eval o0).run P E.w= .ok (.value (.func (.func f) #[] #[.pointer (some ⟨X,0,none⟩),.pointer (some ⟨Y,0,none⟩)])) E.w:=by
  show (execOp a.eval o0).run P E.w=_
  simp [execOp,h0,Act.eval,Instr.makeFunc]
  constructor
  ·simpa [Array.getD_eq_getD_getElem?] using x2
  ·simpa [Array.getD_eq_getD_getElem?] using y2
 rw [r0,Oper.uponIn_value,h0d]
 unfold wpListIn
 rw [if_pos (hw1 _)]
 refine ⟨fun _ _=>trivial,?_⟩
 have hts:a.tmps.size=N:=hG.2.size
 have r1:(Oper.semAt (fen none).round (a.put (some t) (.func (.func f) #[] #[.pointer (some ⟨X,0,none⟩),.pointer (some ⟨Y,0,none⟩)])).eval o1).run P E.w= .ok (.defer (dOf f X Y)) E.w:=by
  show (execOp _ o1).run P E.w=_
  simp [execOp,h1,Act.eval,Act.put,resolve,Deferred.ofValue,hts,htN]
 rw [r1,Oper.uponIn_defer,h1d]
 unfold wpListIn
 refine h X Y E _ ⟨GamS.base (B:=⟨w,fun _=>False,F,N,fun _=>undef,none,fun _=>False,[]⟩) (B':=Bdf w F N f X Y) rfl rfl rfl hG.1,fun k=>?_,⟨[],⟨?_,?_⟩,List.nodup_nil,fun D hD=>(by cases hD),fun D hD=>hD.elim⟩,?_⟩
 ·show RV E (lkT (setT t .any tm++[(N,.ptr n0 0),(N+1,.ptr n1 0)]) k) (if k < N then (a.put (some t) _).tmps.getD k undef else gOfX X Y (k - N))
  by_cases hk:k < N
  ·rw [if_pos hk,lkT_append _ _ _ (fun p hp e=>by simp only [List.mem_cons,List.not_mem_nil,or_false] at hp;rcases hp with rfl|rfl<;>(dsimp only at e;omega)),lkT_setT]
   by_cases hkt:k=t
   ·rw [if_pos hkt];simp only [RV]
   ·rw [if_neg hkt]
    have:=hG.2.tm k
    unfold vOf at this
    rw [if_pos hk] at this
    rw [show (a.put (some t) (.func (.func f) #[] #[.pointer (some ⟨X,0,none⟩),.pointer (some ⟨Y,0,none⟩)])).tmps.getD k undef=a.tmps.getD k undef by simp [Act.put,Array.getD_eq_getD_getElem?,Array.getElem?_setIfInBounds,Ne.symm hkt]]
    exact this
  ·rw [if_neg hk]
   have hout:lkT (setT t .any tm++[(N,.ptr n0 0),(N+1,.ptr n1 0)]) k=lkT [(N,.ptr n0 0),(N+1,.ptr n1 0)] k:=by
    have:∀ l:List (Nat×V),(∀ p∈l,p.1≠k)→∀ m,lkT (l++m) k=lkT m k:=by
     intro l
     induction l with
     |nil=>intro _ m;rfl
     |cons q l ih=>
       obtain ⟨u,z⟩:=q
       intro hl m
       simp only [List.cons_append,lkT]
       rw [if_neg (fun e=>hl (u,z) (by simp) e.symm)]
       exact ih (fun q hq=>hl q (by simp [hq])) m
    refine this _ (fun p hp e=>?_) _
    have key:∀ l:List (Nat×V),(∀ q∈l,q.1 < N)→∀ q∈setT t .any l,q.1 < N:=by
     intro l
     induction l with
     |nil=>intro _ q hq;simp only [setT,List.mem_singleton] at hq;subst hq;exact htN
     |cons r l ih=>
       obtain ⟨u,z⟩:=r
       intro hl q hq
       unfold setT at hq
       split at hq
       ·rcases List.mem_cons.1 hq with rfl|hq
        ·exact hl (u,z) (by simp)
        ·exact hl q (by simp [hq])
       ·rcases List.mem_cons.1 hq with rfl|hq
        ·exact hl _ (by simp)
        ·exact ih (fun q hq=>hl q (by simp [hq])) q hq
    have:=key tm (fun q hq=>by have:=List.all_eq_true.1 htm q hq;simpa using this) p hp
    omega
   rw [hout]
   simp only [lkT]
   by_cases hk0:k=N
   ·subst hk0
    rw [if_pos rfl,Nat.sub_self]
    exact ⟨X,x1,rfl⟩
   ·rw [if_neg hk0]
    by_cases hk1:k=N+1
    ·subst hk1
     rw [if_pos rfl,Nat.add_sub_cancel_left]
     exact ⟨Y,y1,rfl⟩
    ·rw [if_neg hk1];simp only [RV]
 ·show dOf f X Y :: (a.put (some t) _).defers=[]++[dOf f X Y]
  rw [show (a.put (some t) (.func (.func f) #[] #[.pointer (some ⟨X,0,none⟩),.pointer (some ⟨Y,0,none⟩)])).defers=[] from hD]
  rfl
 ·intro D hD
  simp [mark,dOf] at hD
 ·show (a.put (some t) _).tmps.size=N
  simp [Act.put,hts]
end

theorem callsDIn_of_wpS' {P:Program} {f:FuncId} {fn:Func} {c:Code} {args:Array Value} {u:FrameMode} {w:World} {R:Ending→FrameMode→World→Prop} {n:Nat}
  (hf:P.funcs[f]? =some fn) (hb:fn.body=some c)
  (h:∀ (c₀:Frame) (cs:List Frame),c₀.mode=u→
   c.wpS P (bodyPostS P fn c₀ cs R) { tmps:=args++Array.replicate (fn.ntmps - args.size) undef,defers:=[] } (c₀ :: cs) w):
  CallsDIn Fence.wide n P f args u w R:=by
 refine ⟨trivial,fun c₀ cs hu _=>?_⟩
 let b:Frame:={ (default:Frame) with fn:=f,kind:= .deferred }
 have henter:Frame.enter P f args .deferred=
   b.at { tmps:=args++Array.replicate (fn.ntmps - args.size) undef,defers:=[] } [.code c]:=by
  simp [Frame.enter,Frame.at,hf,hb,b]
 obtain ⟨e,a',cs',w',hq,harr⟩:=h c₀ cs hu b [] rfl rfl
 rw [← henter] at harr
 cases e with
 |normal=>
   obtain ⟨hd,u',rfl,v,hr,hR⟩:=hq
   exact ⟨.returned v,u',w',_,hR,comesIn_wide.2 (Steps.trans harr (.one step_end)),rfl,rfl,rfl,hd,fn,hf,hr⟩
 |ret=>
   obtain ⟨hd,u',rfl,v,hr,hR⟩:=hq
   obtain ⟨todo,hs⟩:=harr
   exact ⟨.returned v,u',w',_,hR,comesIn_wide.2 hs,rfl,rfl,rfl,hd,fn,hf,hr⟩
 |panic chain=>
   obtain ⟨hd,u',rfl,hR⟩:=hq
   obtain ⟨todo,hs⟩:=harr
   exact ⟨.panicked chain,u',w',_,hR,comesIn_wide.2 hs,rfl,rfl,rfl,hd,fn,hf⟩
 |exit id=>exact hq.elim
 |goto l=>exact hq.elim
 |outgrown=>
   obtain ⟨u',hR⟩:=hq
   exact ⟨.outgrown,u',w',b,hR,comesIn_wide.2 (harr.resolve_left (by simp [b])),rfl,rfl,trivial⟩
set_option maxRecDepth 100000 in
set_option maxHeartbeats 1000000 in
theorem do1_idle (pv pe:Value) (w:World) (n:Nat):
  CallsDIn Fence.wide n Tryz.prog 22 #[pv,pe] .returning w fun e u' w'=>e= .returned (.tuple #[])∧u'= .returning∧w'=w:=by
 refine callsDIn_of_wpS' Tryz.func22 rfl fun c₀ cs hu=>?_
 apply wpS_seq
 apply wpS_region
 simp [wpOpsS,go_sem,recoverD,hu,Tryz.ntmps22,Exit.thenS]
 refine wpS_of_wp ?_
 go_wp2
 cases c₀
 simp_all [bodyPostS,results,Tryz.results22]
theorem typeAssert54 (e:Int):∀ w,(Instr.typeAssert (.iface 41 (.int .i64 e)) 20 41 true).run Tryz.prog w= .ok (.tuple #[.int .i64 e,.bool true]) w:=fun _=>by kernel_rfl
set_option maxRecDepth 100000 in
set_option maxHeartbeats 1000000 in
theorem do1_code (X Y:Nat) (c0 c1 c2 ev:Value) (w:World) (n:Nat) (e:Int) (hX:w.heap[X]? =some (.cells #[c0,c1,c2] 28 (0,0))) (hY:w.heap[Y]? =some (.cells #[ev] 41 (0,0))) (hne:X≠Y):
  CallsDIn Fence.wide n Tryz.prog 22 #[.pointer (some ⟨X,0,none⟩),.pointer (some ⟨Y,0,none⟩)] (.panicking [{ v:= .iface 41 (.int .i64 e),recovered:=false }]) w fun r u' w'=>
   r= .returned (.tuple #[])∧u'= .panicking [{ v:= .iface 41 (.int .i64 e),recovered:=true }]∧w'=((((w.setCell ⟨X,0,none⟩ (.slice none 0 0)).setCell ⟨X,1,none⟩ (.slice none 0 0)).setCell ⟨X,2,none⟩ (.slice none 0 0)).setCell ⟨Y,0,none⟩ (.int .i64 e)):=by
 refine callsDIn_of_wpS' Tryz.func22 rfl fun c₀ cs hu=>?_
 apply wpS_seq
 apply wpS_region
 simp [wpOpsS,go_sem,recoverD,hu,Tryz.ntmps22,Exit.thenS]
 refine wpS_of_wp ?_
 simp only [Array.replicate_succ,Array.replicate_zero,List.push_toArray,List.append_toArray,List.nil_append,List.cons_append,List.setIfInBounds_toArray,List.set_cons_zero,List.set_cons_succ]
 have x0:w.cell? ⟨X,0,none⟩=some c0:=by simp [World.cell?,hX]
 have x1:w.cell? ⟨X,1,none⟩=some c1:=by simp [World.cell?,hX]
 have x2:w.cell? ⟨X,2,none⟩=some c2:=by simp [World.cell?,hX]
 have f0:w.frozen? ⟨X,0,none⟩=false:=by simp [World.frozen?,hX]
 have f1:w.frozen? ⟨X,1,none⟩=false:=by simp [World.frozen?,hX]
 have f2:w.frozen? ⟨X,2,none⟩=false:=by simp [World.frozen?,hX]
 have y0:w.cell? ⟨Y,0,none⟩=some ev:=by simp [World.cell?,hY]
 have yf:w.frozen? ⟨Y,0,none⟩=false:=by simp [World.frozen?,hY]
 clear hX hY
 have hne':¬ Y=X:=fun h=>hne h.symm
 have hta:=typeAssert54 e
 go_wp2
 exact ⟨rfl,.panicking [{ v:= .iface 41 (.int .i64 e),recovered:=true }],rfl,.tuple #[],by simp [results,Tryz.results22],rfl,rfl,rfl⟩
section
variable {P:Program} {T:Tab}
def RQ (w:World) (F:Ft) (r:Ret) (e:Ending) (w':World):Prop:=∃ v F',e= .returned v∧Below w.heap.size w w'∧FtNew F F' w w'∧RRet F' w' r v
theorem leave_ret {w:World} {F:Ft} {N:Nat} {g:Nat→Value} {df:List Deferred} {fn:Func} {r:Ret} {rs:List ResultVar} {s:St} {E:Env} {a:Act} (hT:TabOk P T) (hr:fn.results=rs.toArray) (hrs:(rs.all (rvOk N))=true)
  (hG:Gam P ⟨w,fun _=>False,F,N,g,none,fun _=>False,df⟩ s E a) (h:retL T s.st s.tm rs (fun vs=>RetV vs r)):∃ v,(results fn a.tmps).run P E.w= .ok v E.w∧RQ w F r (.returned v) E.w:=by
 obtain ⟨vs,h12,h3,h4⟩:=retL_ok (B:=⟨w,fun _=>False,F,N,g,none,fun _=>False,df⟩) hT hrs h
 obtain ⟨asA',h1,h2⟩:=h12.get
 obtain ⟨us',h5,h6⟩:=h4 E a hG
 have h5:(fn.results.toList.mapM (resOne a.tmps)).run P E.w= .ok us' E.w:=by rw [hr];exact h5
 have h7:=toAs_ok h1 h6
 refine ⟨_,results_run h5,_,E.F,rfl,⟨hG.1.os,hG.1.tape,hG.1.output,hG.1.size,fun b hb=>hG.1.old b hb (fun h=>h)⟩,⟨hG.1.F0,fun b o hb=>?_,fun b hb=>?_⟩,?_⟩
 ·have:=hG.1.Fc b o hb
  rcases this.1 with h8|h8|h8
  ·exact .inl h8
  ·exact .inr ⟨h8,this.2⟩
  ·exact h8.elim
 ·have:=hG.1.Fm b hb
  rcases this.1 with h8|h8|h8
  ·exact .inl h8
  ·exact .inr ⟨h8,this.2⟩
  ·exact h8.elim
 ·have hl:=h7.len
  unfold RetOk at h2
  split at h2
  ·rename_i a b
   simp only [RAL] at h7
   obtain ⟨u,r',rfl,h8,rfl⟩:=h7
   exact h2 _ _ _ h8
  ·rename_i a a2 as2 bs
   have hne:¬ us'.toArray.size=1:=by simp at hl ⊢;omega
   rw [dif_neg hne]
   exact ⟨us',rfl,subL_ok h2 h7⟩
  ·have hl0:us'.length=0:=by simpa using hl
   have hne:¬ us'.toArray.size=1:=by simp only [List.size_toArray];omega
   rw [dif_neg hne]
   exact ⟨us',rfl,subL_ok h2 h7⟩
  ·exact h2.elim
theorem gam_write {B:Base} {s:St} {E:Env} {a:Act} {n X:Nat} {t:TypeId} {cs:List V} (hG:Gam P B s E a) (hn:lkB s.st n=some (.cells t cs)) (hη:E.η n=some (.pointer (some ⟨X,0,none⟩))) (xs:List D) (us:List Value) (hl:us.length=cs.length) (hd:RDL E.F E.w xs us) (h1:∀ u∈us,u.oneCell'=true) (hst:∀ E':Env,Ext E E'→RDL E'.F E'.w xs us):
  ∃ E',E'.w=E.w.setCells X 0 us∧E'.η=E.η∧Gam P B ⟨s.tm,setB n (.cells t (dV xs)) s.st,s.nx⟩ E' a:=by
 obtain ⟨b',cur,k1,k2,k3,k4,k5⟩:=hG.1.st n _ hn
 rw [hη] at k1
 cases k1
 have hl2:=k3.len
 obtain ⟨f1,f2,f3,f4,f5⟩:=setCells_facts X us 0 E.w
 have hW:=GamS.write (x:= .cells t cs) (x':= .cells t (dV xs)) (σ':=lkB (setB n (.cells t (dV xs)) s.st)) (w':=E.w.setCells X 0 us) hG.1 hn (fun m=>lkB_setB _ _ _ _) hη rfl (fun o' ho'=>(k5.2.2.2 o' ho').elim) f1 f2 f3 f4 f5 (fun E' hE' hext hok=>by
  subst hE'
  refine ⟨X,spliceU cur 0 us,hη,setCells_splice k2 (by omega),?_,fun u hu=>?_,hok⟩
  ·have:spliceU cur 0 us=us:=by
    unfold spliceU
    rw [List.take_zero,List.nil_append,List.drop_eq_nil_of_le (by omega),List.append_nil]
   rw [this]
   exact RVL.of_data (hst _ hext)
  ·unfold spliceU at hu
   rw [List.take_zero,List.nil_append,List.drop_eq_nil_of_le (by omega),List.append_nil] at hu
   exact h1 u hu)
 exact ⟨⟨E.η,E.F,E.w.setCells X 0 us,E.dp⟩,rfl,rfl,hW.1,hG.2.ext hW.2 rfl⟩
end
theorem do_bad {w:World} {F:Ft} {X Y:Nat} {E:Env} {a:Act} {s:St} {e:Int} {r0 r1 r2 v:V} (hG:Gam Tryz.prog (Bdf w F 40 22 X Y) s E a) (h4:lkT s.tm 4= .ptr 0 0) (h5:lkT s.tm 5= .ptr 1 0) (g0:lkT s.tm 40= .ptr 0 0) (g1:lkT s.tm 41= .ptr 1 0)
  (hb0:lkB s.st 0=some (.cells 28 [r0,r1,r2])) (hb1:lkB s.st 1=some (.cells 41 [v])):
  LeavesInM Fence.wide 0 Tryz.prog Tryz.f6 a.tmps (RQ w F (.rt [aRoom room0,aI e])) a.defers (.panicking [{ v:= .iface 41 (.int .i64 e),recovered:=false }]) E.w:=by
 obtain ⟨ds,hds,hnd,hdp,hgd⟩:=hG.2.defers
 obtain ⟨E1,hS,hX,hk,hL⟩:=leaves_ofG (fn:=Tryz.f6) (u:= .panicking [{ v:= .iface 41 (.int .i64 e),recovered:=false }]) (X:=[dOf 22 X Y]) (R:=RQ w F (.rt [aRoom room0,aI e])) (by simp) ds E hG.1 hnd (fun D hD=>(hdp D hD).1) a.tmps
 rw [hds.1]
 refine hL ?_
 have hG1:Gam Tryz.prog (Bdf w F 40 22 X Y) s E1 ⟨a.tmps,[dOf 22 X Y]⟩:=⟨hS,fun t=>RV.mono hX _ _ (hG.2.tm t),⟨[],⟨rfl,hds.2⟩,List.nodup_nil,fun D hD=>(by cases hD),fun D hD=>hD.elim⟩,hG.2.size⟩
 have p0:=hG1.2.tm 40
 have p1:=hG1.2.tm 41
 rw [g0] at p0
 rw [g1] at p1
 simp only [RV] at p0 p1
 obtain ⟨b0,e0,q0⟩:=p0
 obtain ⟨b1,e1,q1⟩:=p1
 have hb0X:X=b0:=by
  have:(Value.pointer (some ⟨X,0,none⟩))= .pointer (some ⟨b0,0,none⟩):=q0
  simpa using this
 have hb1Y:Y=b1:=by
  have:(Value.pointer (some ⟨Y,0,none⟩))= .pointer (some ⟨b1,0,none⟩):=q1
  simpa using this
 subst hb0X hb1Y
 obtain ⟨c0,u0,j0,m0,n0,_,ok0⟩:=hG1.1.st 0 _ hb0
 obtain ⟨c1,u1,j1,m1,n1,_,ok1⟩:=hG1.1.st 1 _ hb1
 rw [e0] at j0
 rw [e1] at j1
 cases j0
 cases j1
 obtain ⟨x0,x1,x2,rfl⟩:∃ a b c,u0=[a,b,c]:=by
  have:=n0.len
  match u0,this with
  |[a,b,c],_=>exact ⟨a,b,c,rfl⟩
 obtain ⟨y0,rfl⟩:∃ a,u1=[a]:=by
  have:=n1.len
  match u1,this with
  |[a],_=>exact ⟨a,rfl⟩
 have hne:X≠Y:=fun h=>hG1.1.dist 0 1 _ _ X _ _ (by decide) hb0 hb1 e0 e1 rfl (by rw [h];rfl)
 refine ⟨by simp,.inr ⟨fun h=>(by cases h),_,_,_,_,rfl,by simp [invoke,Tryz.func22],fun _ _=>trivial,(do1_code X Y x0 x1 x2 y0 E1.w _ e m0 m1 hne).mono ?_⟩⟩
 rintro r u' w' ⟨rfl,rfl,rfl⟩
 obtain ⟨E2,w2,η2,hG2⟩:=gam_write hG1 hb0 e0 [.c (.slice none 0 0),.c (.slice none 0 0),.c (.slice none 0 0)] [.slice none 0 0,.slice none 0 0,.slice none 0 0] rfl (by simp [RDL,RD]) (by simp [Value.oneCell']) (fun E' _=>by simp [RDL,RD])
 obtain ⟨E3,w3,η3,hG3⟩:=gam_write (n:=1) (X:=Y) (t:=41) (cs:=[v]) hG2 (by show lkB (setB 0 _ s.st) 1=_;rw [lkB_setB,if_neg (by decide)];exact hb1) (by rw [η2];exact e1) [.c (.int .i64 e)] [.int .i64 e] rfl (by simp [RDL,RD]) (by simp [Value.oneCell']) (fun E' _=>by simp [RDL,RD])
 have hw3:E3.w=((((E1.w.setCell ⟨X,0,none⟩ (.slice none 0 0)).setCell ⟨X,1,none⟩ (.slice none 0 0)).setCell ⟨X,2,none⟩ (.slice none 0 0)).setCell ⟨Y,0,none⟩ (.int .i64 e)):=by
  rw [w3,w2];rfl
 rw [← hw3]
 refine leave_ret (a:=⟨a.tmps,[dOf 22 X Y]⟩) (T:=T) (rs:=[.cell 4 28,.cell 5 41]) T_ok rfl rfl hG3 ?_
 simp only [↓avP,avQ,avR,forall_const,implies_true,reduceIte,Nat.reduceEqDiff,Nat.reduceAdd,Nat.reduceSub,Int.reduceToNat,Nat.reduceLeDiff,Nat.reduceLT,reduceCtorEq,Int.reduceEq,avS,ty_28,ty_41,ty_22,ty_26,ty_23,ty_24,h4,h5,lkB_setB]
 exact ⟨sub_room0,Sub.refl _⟩
theorem do_good {w:World} {F:Ft} {X Y:Nat} {E:Env} {a:Act} {s:St} {r:Ret} (hG:Gam Tryz.prog (Bdf w F 40 22 X Y) s E a) (h:retL T s.st s.tm [.cell 4 28,.cell 5 41] (fun vs=>RetV vs r)):
  LeavesInM Fence.wide 0 Tryz.prog Tryz.f6 a.tmps (RQ w F r) a.defers .returning E.w:=by
 obtain ⟨ds,hds,hnd,hdp,hgd⟩:=hG.2.defers
 obtain ⟨E1,hS,hX,hk,hL⟩:=leaves_ofG (fn:=Tryz.f6) (u:= .returning) (X:=[dOf 22 X Y]) (R:=RQ w F r) (by simp) ds E hG.1 hnd (fun D hD=>(hdp D hD).1) a.tmps
 rw [hds.1]
 refine hL ?_
 have hG1:Gam Tryz.prog (Bdf w F 40 22 X Y) s E1 ⟨a.tmps,[dOf 22 X Y]⟩:=⟨hS,fun t=>RV.mono hX _ _ (hG.2.tm t),⟨[],⟨rfl,hds.2⟩,List.nodup_nil,fun D hD=>(by cases hD),fun D hD=>hD.elim⟩,hG.2.size⟩
 refine ⟨by simp,.inr ⟨fun h=>(by cases h),_,_,_,_,rfl,by simp [invoke,Tryz.func22],fun _ _=>trivial,(do1_idle (.pointer (some ⟨X,0,none⟩)) (.pointer (some ⟨Y,0,none⟩)) E1.w _).mono ?_⟩⟩
 rintro x u' w' ⟨rfl,rfl,rfl⟩
 exact leave_ret (a:=⟨a.tmps,[dOf 22 X Y]⟩) (T:=T) (rs:=[.cell 4 28,.cell 5 41]) T_ok rfl rfl hG1 h
end Go.Proofs.YthidfoohhhkobaaGreat
