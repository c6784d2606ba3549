import Derived.Test.YthidfoohhhkobaaGreatG19
import Derived.Test.YthidfoohhhkobaaGreatG17
import Derived.Test.YthidfoohhhkobaaGreatG5
import Derived.Test.YthidfoohhhkobaaGreatG11
namespace Go.Proofs.YthidfoohhhkobaaGreat
set_option linter.unusedSimpArgs false
set_option linter.unusedVariables false
open Go.RowKit
set_option maxRecDepth 100000
set_option maxHeartbeats 40000000
theorem q54read_spec (b:List UInt8) (hb:b.length≤1000000):Spec Tryz.prog 37 [.one (bsD b)] (.rt [.agg (handD (readP b)),aB (readH b).2]):=by
 have hc:=rcdDec_spec b hb
 cases hd:Cd.dec b with
 |none=>
   have e1:readP b=default:=by unfold readP;rw [hd]
   have e2:(readH b).2=false:=by unfold readH;rw [hd]
   rw [e1,e2]
   rw [hd,Option.getD_none,val4_eq,val4] at hc
   refine spec_of T_ok Tryz.func37 (by dsimp only [Tryz.f37]) rfl rfl (by simp) fun w F=>?_
   repeat' (first |(with_reducible refine aw_seq ?_)|((with_reducible refine two_intro ?_ ?_)<;>intro h<;>first |contradiction|(((revert h;intro _))))|((with_reducible refine And.intro ?_ ?_);(focus (rfl)))|((first |((with_reducible refine aw_regionA T_ok ?_ ?_);kernel_rfl)|((with_reducible refine callI_spec (hc) ?_ ?_ ?_ ?_);(focus (((repeat' (first |exact ta_n|refine ta_d ?_));done)));kernel_rfl;kernel_rfl)|((with_reducible refine aw_condM ?_ ?_);kernel_rfl)|(with_reducible refine aw_ret ?_) );simp only [↓avP,avQ,avR,forall_const,implies_true,Nat.reduceEqDiff,Nat.reduceAdd,Nat.reduceLeDiff,reduceCtorEq,avS,handS,ty_3,↓zH_one,hd_dr,↓zH_cells,zH_map,ty_H,ty_79,ty_76]))
   exact ⟨Sub.refl _,Sub.refl _⟩
 |some v=>
   rw [hd,Option.getD_some,val4_eq,val4] at hc
   obtain ⟨k,n,t,l⟩:=v
   simp only [vK,vN,vS,vL] at hc
   cases h3:(k != 3) with
   |true=>
     have h3':k≠3:=by simpa using h3
     have e1:readP b=default:=by unfold readP;rw [hd];exact if_neg fun h=>h3' h.1
     have e2:(readH b).2=false:=by unfold readH;rw [hd];simp [rdV,vK,h3']
     rw [e1,e2]
     refine spec_of T_ok Tryz.func37 (by dsimp only [Tryz.f37]) rfl rfl (by simp) fun w F=>?_
     repeat' (first |(with_reducible first |refine aw_seq ?_|refine two_t ?_)|((with_reducible refine And.intro ?_ ?_);(focus (rfl)))|((first |((with_reducible refine aw_regionA T_ok ?_ ?_);kernel_rfl)|((with_reducible refine callI_spec (hc) ?_ ?_ ?_ ?_);(focus (((repeat' (first |exact ta_n|refine ta_d ?_));done)));kernel_rfl;kernel_rfl)|((with_reducible refine aw_condM ?_ ?_);kernel_rfl)|(with_reducible refine aw_ret ?_) );simp only [↓avP,avQ,avR,forall_const,implies_true,Nat.reduceEqDiff,Nat.reduceAdd,Nat.reduceLeDiff,reduceCtorEq,avS,handS,ty_3,↓zH_one,hd_dr,↓zH_cells,zH_map,ty_H,ty_79,ty_76,h3]))
     exact ⟨Sub.refl _,Sub.refl _⟩
   |false=>
   obtain rfl:k=3:=by simpa using h3
   by_cases h11:l.length=11
   ·have e1:readP b=if badF l 0 11=11 then hS l 11 else default:=by
     unfold readP
     rw [hd]
     by_cases hbf:badF l 0 11=11
     ·rw [if_pos hbf];exact if_pos ⟨rfl,h11,hbf⟩
     ·rw [if_neg hbf];exact if_neg fun h=>hbf h.2.2
    have e2:(readH b).2=(decide (badF l 0 11=11)&&formB (hS l 11)):=by
     unfold readH
     rw [hd]
     show (rdV (.mk 3 n t l)).2=_
     rw [rdV,if_pos ⟨rfl,h11⟩]
     rfl
    rw [e1,e2]
    refine spec_of T_ok Tryz.func37 (by dsimp only [Tryz.f37]) rfl rfl (by simp) fun w F=>?_
    have hln:((l.length:Int) != 11)=false:=by simp;omega
    repeat' (first |(with_reducible refine aw_seq ?_)|((with_reducible refine two_intro ?_ ?_)<;>intro h<;>first |contradiction|((first |(guard_hyp h:true=true;clear h)|(revert h;intro _))))|((with_reducible refine And.intro ?_ ?_);(focus (rfl)))|(with_reducible refine aw_block ?_)|((first |((with_reducible refine aw_regionA T_ok ?_ ?_);kernel_rfl)|((with_reducible refine callI_spec (hc) ?_ ?_ ?_ ?_);(focus (((repeat' (first |exact ta_n|refine ta_d ?_));done)));kernel_rfl;kernel_rfl)|(with_reducible refine aw_skip ?_)|((with_reducible refine aw_condM ?_ ?_);kernel_rfl)|(with_reducible refine aw_ret ?_) );simp only [↓avP,avQ,avR,forall_const,implies_true,Nat.reduceEqDiff,Nat.reduceAdd,Nat.reduceLeDiff,reduceCtorEq,avS,handS,ty_3,↓zH_one,hd_dr,↓zH_cells,zH_map,ty_H,ty_79,ty_76,hln,valsD_len]))
    refine aw_loopI (fun k:Nat=>⟨[(2,.ptr 0 0),(3,vB false),(4,.ptr 1 0),(6,vI k)],[(1,.cells 79 [.d (cI 3),.d (cI n),.d (.c (.string (strL t))),.d (.sl 4 val0 (valsD l))]),(0,.cells 36 (dV (handD default)))],2⟩) (fun k=>k≤11∧∀ i,i < k→elOk i (elAt l i)=true) (fun k=>11 - k) 0 ⟨Nat.zero_le _,fun i hi=>absurd hi (Nat.not_lt_zero i)⟩ (wk_of [(0,some 0),(1,some 1)] rfl rfl ?_ ?_) ?_
    ·simp only [wkA,reduceIte,Nat.reduceEqDiff]
     (repeat' (first |rfl|exact subVs_d _ _))
    ·simp only [wkA,reduceIte,Nat.reduceEqDiff]
     (repeat' (first |rfl|exact subVs_d _ _))
    rintro k ⟨hk,h0⟩
    rcases Nat.lt_or_ge k 11 with hlt|hge
    ·have hd2:decide ((k:Int) < 11)=true:=decide_eq_true (by omega)
     have hge:=getD_vals l k (by omega)
     rw [val4] at hge
     have hbad:elOk k (elAt l k)=false→badF l 0 11=k:=fun h=>badF_eq l k h0 h 11 0 (Nat.zero_le _) (by omega)
     have hnext:elOk k (elAt l k)=true→∀ i,i < k+1→elOk i (elAt l i)=true:=fun h i hi=>by
      rcases Nat.lt_succ_iff_lt_or_eq.1 hi with h'|rfl
      ·exact h0 i h'
      ·exact h
     by_cases h7:k=7
     ·have e1:((k:Int)==7)=true:=by simp;omega
      have e2:((k:Int) != 7)=false:=by simp;omega
      cases hk1:(vK (elAt l k) != 2) with
      |true=>
        have hb:=hbad (by rw [elOk,if_pos h7,show (vK (elAt l k)==2)=false by simpa using hk1];rfl)
        repeat' (first |(with_reducible first |refine aw_seq ?_|refine two_t ?_|refine two_f ?_)|((with_reducible refine And.intro ?_ ?_);(focus (first |omega|grind)))|(with_reducible refine aw_block ?_)|((first |((with_reducible refine aw_regionA T_ok ?_ ?_);kernel_rfl)|(with_reducible refine aw_skip ?_)|((with_reducible refine aw_condM ?_ ?_);kernel_rfl)|(with_reducible refine aw_ret ?_) );simp only [↓avP,avQ,avR,forall_const,implies_true,Nat.reduceEqDiff,Nat.reduceLeDiff,reduceCtorEq,avS,handS,ty_3,↓zH_one,hd_dr,↓zH_cells,ty_H,ty_79,ty_76,ty_9,hd2,hge,e1,e2,hk1,valsD_len,h11];try simp (disch:=omega) only [avW]))
        rw [hb,if_neg (by omega),decide_eq_false (by omega),Bool.false_and]
        exact ⟨Sub.refl _,Sub.refl _⟩
      |false=>
      have hk1':(vK (elAt l k)==2)=true:=by simpa using hk1
      cases hk2:(((vS (elAt l k)).length:Int) != 32) with
      |true=>
        have hb:=hbad (by rw [elOk,if_pos h7,show (((vS (elAt l k)).length:Int)==32)=false by simpa using hk2,Bool.and_false])
        repeat' (first |(with_reducible first |refine aw_seq ?_|refine two_t ?_|refine two_f ?_)|((with_reducible refine And.intro ?_ ?_);(focus (omega)))|(with_reducible refine aw_block ?_)|((first |((with_reducible refine aw_regionA T_ok ?_ ?_);kernel_rfl)|(with_reducible refine aw_skip ?_)|((with_reducible refine aw_condM ?_ ?_);kernel_rfl)|(with_reducible refine aw_ret ?_) );simp only [↓avP,avQ,avR,forall_const,implies_true,Nat.reduceEqDiff,Nat.reduceLeDiff,reduceCtorEq,avS,handS,ty_3,↓zH_one,hd_dr,↓zH_cells,ty_H,ty_79,ty_76,ty_9,hd2,hge,e1,e2,hk1,hk2,str_sz,valsD_len,h11];try simp (disch:=omega) only [avW]))
        rw [hb,if_neg (by omega),decide_eq_false (by omega),Bool.false_and]
        exact ⟨Sub.refl _,Sub.refl _⟩
      |false=>
        have hn2:=hnext (by rw [elOk,if_pos h7,hk1',show (((vS (elAt l k)).length:Int)==32)=true by simpa using hk2];rfl)
        repeat' (first |(with_reducible first |refine aw_seq ?_|refine two_t ?_|refine two_f ?_)|((with_reducible refine And.intro ?_ ?_);(focus (omega)))|(with_reducible refine aw_block ?_)|((first |((with_reducible refine aw_regionA T_ok ?_ ?_);kernel_rfl)|(with_reducible refine aw_skip ?_)|((with_reducible refine aw_condM ?_ ?_);kernel_rfl)|(with_reducible refine aw_ret ?_) );simp only [↓avP,avQ,avR,forall_const,implies_true,Nat.reduceEqDiff,Nat.reduceLeDiff,reduceCtorEq,avS,handS,ty_3,↓zH_one,hd_dr,↓zH_cells,ty_H,ty_79,ty_76,ty_9,hd2,hge,e1,e2,hk1,hk2,str_sz,valsD_len,h11];try simp (disch:=omega) only [avW]))
        refine ⟨k+1,⟨by omega,hn2⟩,by dsimp only;omega,wk_of [(0,some 0),(1,some 1)] rfl rfl ?_ ?_⟩
        ·simp only [wkA,reduceIte,Nat.reduceEqDiff]
         (repeat' (first |rfl|exact subVs_d _ _))
        ·simp only [wkA,reduceIte,Nat.reduceEqDiff]
         (repeat' (first |rfl|exact subVs_d _ _))
     ·have e1:((k:Int)==7)=false:=by simp;omega
      have e2:((k:Int) != 7)=true:=by simp;omega
      cases hk1:(vK (elAt l k) != 1) with
      |false=>
        have hn2:=hnext (by rw [elOk,if_neg h7];simpa using hk1)
        repeat' (first |(with_reducible first |refine aw_seq ?_|refine two_t ?_|refine two_f ?_)|((with_reducible refine And.intro ?_ ?_);(focus (first |omega|grind)))|(with_reducible refine aw_block ?_)|((first |((with_reducible refine aw_regionA T_ok ?_ ?_);kernel_rfl)|(with_reducible refine aw_skip ?_)|((with_reducible refine aw_condM ?_ ?_);kernel_rfl)|(with_reducible refine aw_ret ?_) );simp only [↓avP,avQ,avR,forall_const,implies_true,Nat.reduceEqDiff,Nat.reduceLeDiff,reduceCtorEq,avS,handS,ty_3,↓zH_one,hd_dr,↓zH_cells,ty_H,ty_79,ty_76,ty_9,hd2,hge,e1,e2,hk1,valsD_len,h11];try simp (disch:=omega) only [avW]))
        refine ⟨k+1,⟨by omega,hn2⟩,by dsimp only;omega,wk_of [(0,some 0),(1,some 1)] rfl rfl ?_ ?_⟩
        ·simp only [wkA,reduceIte,Nat.reduceEqDiff]
         (repeat' (first |rfl|exact subVs_d _ _))
        ·simp only [wkA,reduceIte,Nat.reduceEqDiff]
         (repeat' (first |rfl|exact subVs_d _ _))
      |true=>
        have hb:=hbad (by rw [elOk,if_neg h7];simpa using hk1)
        repeat' (first |(with_reducible first |refine aw_seq ?_|refine two_t ?_|refine two_f ?_)|((with_reducible refine And.intro ?_ ?_);(focus (first |omega|grind)))|(with_reducible refine aw_block ?_)|((first |((with_reducible refine aw_regionA T_ok ?_ ?_);kernel_rfl)|(with_reducible refine aw_skip ?_)|((with_reducible refine aw_condM ?_ ?_);kernel_rfl)|(with_reducible refine aw_ret ?_) );simp only [↓avP,avQ,avR,forall_const,implies_true,Nat.reduceEqDiff,Nat.reduceLeDiff,reduceCtorEq,avS,handS,ty_3,↓zH_one,hd_dr,↓zH_cells,ty_H,ty_79,ty_76,ty_9,hd2,hge,e1,e2,hk1,valsD_len,h11];try simp (disch:=omega) only [avW]))
        rw [hb,if_neg (by omega),decide_eq_false (by omega),Bool.false_and]
        exact ⟨Sub.refl _,Sub.refl _⟩
    ·obtain rfl:k=11:=by omega
     have hb11:badF l 0 11=11:=badF_all l 11 0 (fun i hi=>h0 i (by omega))
     have h7:=h0 7 (by omega)
     have hs7:(vS (elAt l 7)).length=32:=by
      rw [elOk,if_pos rfl,Bool.and_eq_true] at h7
      have:=beq_iff_eq.1 h7.2
      omega
     have g0:=getD_vals l 0 (by omega)
     have g1:=getD_vals l 1 (by omega)
     have g2:=getD_vals l 2 (by omega)
     have g3:=getD_vals l 3 (by omega)
     have g4:=getD_vals l 4 (by omega)
     have g5:=getD_vals l 5 (by omega)
     have g6:=getD_vals l 6 (by omega)
     have g7:=getD_vals l 7 (by omega)
     have g8:=getD_vals l 8 (by omega)
     have g9:=getD_vals l 9 (by omega)
     have g10:=getD_vals l 10 (by omega)
     rw [val4] at g0 g1 g2 g3 g4 g5 g6 g7 g8 g9 g10
     rw [hb11,if_pos rfl,decide_eq_true rfl,Bool.true_and]
     repeat' (first |(with_reducible refine aw_seq ?_)|((with_reducible refine two_intro ?_ ?_)<;>intro h<;>first |contradiction|(((revert h;intro _))))|((with_reducible refine And.intro ?_ ?_);(focus (first |omega|rfl)))|(with_reducible refine aw_block ?_)|((first |((with_reducible refine aw_regionA T_ok ?_ ?_);kernel_rfl)|((with_reducible refine aw_drawnA T_ok ?_ ?_ ?_ ?_);kernel_rfl;kernel_rfl;(focus (decide+kernel)))|(with_reducible refine aw_exit ?_)|((with_reducible refine aw_condM ?_ ?_);kernel_rfl) );simp only [↓avP,avQ,avR,forall_const,implies_true,Nat.reduceEqDiff,Nat.reduceAdd,Int.reduceToNat,Nat.reduceLeDiff,Nat.reduceLT,reduceCtorEq,avS,handS,↓hd_z0,↓hd_t3s,↓hd_t4,↓hd_t5,↓hd_s6,ty_3,↓zH_one,hd_dr,↓zH_cells,zH_map,ty_H,ty_30,ty_79,ty_76,g0,g1,g2,g3,g4,g5,g6,valsD_len,h11]))
     refine aw_loopI (fun k:Nat=>⟨[(2,.ptr 0 0),(3,vB false),(4,.ptr 1 0),(7,.ptr 2 0),(8,vI k)],[(2,.cells 36 (dV (handD { (hA l) with root:=rootP (vS (elAt l 7)) k }))),(1,.cells 79 [.d (cI 3),.d (cI n),.d (.c (.string (strL t))),.d (.sl 4 val0 (valsD l))]),(0,.cells 36 (dV (handD default)))],3⟩) (fun k=>k≤32) (fun k=>32 - k) 0 (Nat.zero_le _) (wk_of [(0,some 0),(1,some 1),(2,some 39)] rfl rfl ?_ ?_) ?_
     ·simp only [wkA,reduceIte,Nat.reduceEqDiff]
      (repeat' (first |exact subVs_d _ _|rfl|refine And.intro ?_ ?_))
     ·rw [rootP_zero]
      simp only [wkA,reduceIte,Nat.reduceEqDiff]
      (repeat' (first |exact subVs_d _ _|rfl|refine And.intro ?_ ?_))
     intro k hk
     rcases Nat.lt_or_ge k 32 with hlt|hge
     ·have hd2:decide ((k:Int) < 32)=true:=decide_eq_true (by omega)
      have hst:=rootP_set (vS (elAt l 7)) (hA l) k hlt
      repeat' (first |(with_reducible first |refine aw_seq ?_|refine two_t ?_)|((with_reducible refine And.intro ?_ ?_);(focus (omega)))|(with_reducible refine aw_block ?_)|((first |((with_reducible refine aw_regionA T_ok ?_ ?_);kernel_rfl)|(with_reducible refine aw_skip ?_)|((with_reducible refine aw_condM ?_ ?_);kernel_rfl) );simp only [↓avP,avQ,avR,forall_const,implies_true,Nat.reduceEqDiff,Int.reduceToNat,Nat.reduceLeDiff,Nat.reduceLT,reduceCtorEq,↓strIx.eq_def,handS,ty_H,ty_32,ty_79,ty_76,ty_9,ty_5,hd2,g7,valsD_len,h11,hs7,str_sz,↓hst];try simp (disch:=omega) only [av_w]))
      refine ⟨k+1,by omega,by dsimp only;omega,wk_of [(0,some 0),(1,some 1),(2,some 2)] rfl rfl ?_ ?_⟩
      ·simp only [wkA,reduceIte,Nat.reduceEqDiff]
       (repeat' (first |exact subVs_d _ _|rfl|refine And.intro ?_ ?_))
      ·simp only [wkA,reduceIte,Nat.reduceEqDiff]
       (repeat' (first |exact subVs_d _ _|rfl|refine And.intro ?_ ?_))
     ·obtain rfl:k=32:=by omega
      have hend:=hA_end l hs7
      have hf:=q48formed_spec (hS l 11)
      repeat' (first |(with_reducible refine aw_seq ?_)|((with_reducible refine two_intro ?_ ?_)<;>intro h<;>first |contradiction|(((revert h;intro _))))|((with_reducible refine And.intro ?_ ?_);(focus (first |omega|rfl)))|((first |((with_reducible refine aw_regionA T_ok ?_ ?_);kernel_rfl)|((with_reducible refine aw_drawnV (id:=16) 3 0 [1,2,4] T_ok ?_ ?_ ?_ ?_ ?_);kernel_rfl;kernel_rfl;(focus (decide+kernel));kernel_rfl)|((with_reducible refine aw_drawnA T_ok ?_ ?_ ?_ ?_);kernel_rfl;kernel_rfl;(focus (decide+kernel)))|((with_reducible refine callK_intro (hf) ?_ ?_ ?_);(focus (((repeat' (first |exact ta_n|refine ta_a ?_));done)));kernel_rfl)|(with_reducible first |refine fin2_intro ?_|refine aw_exit ?_)|((with_reducible refine aw_condM ?_ ?_);kernel_rfl)|(with_reducible refine aw_ret ?_) );simp only [↓avP,avQ,avR,forall_const,implies_true,Nat.reduceEqDiff,Nat.reduceAdd,Int.reduceToNat,Nat.reduceLeDiff,Nat.reduceLT,reduceCtorEq,↓earlyK.eq_def,lateK.eq_def,tailX,Nat.reduceBEq,avS,hd_k40,handS,↓hd_s39,ty_3,hd_dr,ty_H,ty_34,ty_79,ty_76,g8,g9,g10,valsD_len,h11,hend]))
      exact ⟨Sub.refl _,Sub.refl _⟩
   ·have hln:((l.length:Int) != 11)=true:=by simp;omega
    have e1:readP b=default:=by unfold readP;rw [hd];exact if_neg fun h=>h11 h.2.1
    have e2:(readH b).2=false:=by unfold readH;rw [hd];simp [rdV,vL,h11]
    rw [e1,e2]
    refine spec_of T_ok Tryz.func37 (by dsimp only [Tryz.f37]) rfl rfl (by simp) fun w F=>?_
    repeat' (first |(with_reducible refine aw_seq ?_)|((with_reducible refine two_intro ?_ ?_)<;>intro h<;>first |contradiction|((first |(guard_hyp h:true=true;clear h)|(revert h;intro _))))|((with_reducible refine And.intro ?_ ?_);(focus (rfl)))|(with_reducible refine aw_block ?_)|((first |((with_reducible refine aw_regionA T_ok ?_ ?_);kernel_rfl)|((with_reducible refine callI_spec (hc) ?_ ?_ ?_ ?_);(focus (((repeat' (first |exact ta_n|refine ta_d ?_));done)));kernel_rfl;kernel_rfl)|(with_reducible refine aw_skip ?_)|((with_reducible refine aw_condM ?_ ?_);kernel_rfl)|(with_reducible refine aw_ret ?_) );simp only [↓avP,avQ,avR,forall_const,implies_true,Nat.reduceEqDiff,Nat.reduceAdd,Nat.reduceLeDiff,reduceCtorEq,avS,handS,ty_3,↓zH_one,hd_dr,↓zH_cells,zH_map,ty_H,ty_79,ty_76,hln,valsD_len]))
    exact ⟨Sub.refl _,Sub.refl _⟩

set_option maxHeartbeats 4000000
theorem bef_cmp (a b:Hd):decide (cmpB (msg a) (msg b) < 0)=befB a b:=rfl
theorem pk_max (n:Nat) (p:Pk):pkB n p=((readH p.data).2&& !decide (p.frm≥(n:Int))&& !decide (p.to_≥(n:Int))):=by
 unfold pkB
 rw [Bool.and_assoc]
 congr 1
 rw [Bool.eq_iff_iff]
 simp only [Bool.and_eq_true,Bool.not_eq_true',decide_eq_false_iff_not]
 split<;>omega
theorem q54check_spec (r:RoomP) (ho:okRoom r):Spec Tryz.prog 11 [aRoom r] (.r1 (aI (roomChk r))):=by
 obtain ⟨hp,hk,hn,hq⟩:=ho
 have hnc:=q06Check_spec r.net hn
 have hq1:r.net.queue.length≤1048576:=hn.1
 rw [netD] at hnc
 refine spec_of T_ok Tryz.func11 (by dsimp only [Tryz.f11]) rfl rfl (by simp) fun w F=>?_
 by_cases h1:r.peers.length < 1
 ·have hd1:decide ((r.peers.length:Int) < 1)=true:=decide_eq_true (by omega)
  repeat' (first |(with_reducible first |refine aw_seq ?_|refine two_t ?_)|((first |((with_reducible refine aw_regionA T_ok ?_ ?_);kernel_rfl)|((with_reducible refine callK_intro (hnc) ?_ ?_ ?_);(focus (with_unfolding_all rfl));kernel_rfl)|((with_reducible refine aw_condM ?_ ?_);kernel_rfl)|(with_reducible refine aw_ret ?_) );simp only [↓avP,avQ,avR,forall_const,implies_true,Nat.reduceEqDiff,Nat.reduceAdd,Nat.reduceLeDiff,reduceCtorEq,avS,roomD_B,ty_28,ty_22,ty_26,hd1]))
  exact Sub.of_eq (congrArg aI (by rw [roomChk,if_pos (.inl h1)]))
 have hd1:decide ((r.peers.length:Int) < 1)=false:=decide_eq_false (by omega)
 by_cases h2:r.peers.length > 24
 ·have hd2:decide ((r.peers.length:Int) > 24)=true:=decide_eq_true (by omega)
  repeat' (first |(with_reducible first |refine aw_seq ?_|refine two_t ?_)|((first |((with_reducible refine aw_regionA T_ok ?_ ?_);kernel_rfl)|((with_reducible refine callK_intro (hnc) ?_ ?_ ?_);(focus (with_unfolding_all rfl));kernel_rfl)|((with_reducible refine aw_condM ?_ ?_);kernel_rfl)|(with_reducible refine aw_ret ?_) );simp only [↓avP,avQ,avR,forall_const,implies_true,Nat.reduceEqDiff,Nat.reduceAdd,Nat.reduceLeDiff,reduceCtorEq,avS,roomD_B,ty_28,ty_22,ty_26,hd1,hd2]))
  exact Sub.of_eq (congrArg aI (by rw [roomChk,if_pos (.inr (.inl h2))]))
 have hd2:decide ((r.peers.length:Int) > 24)=false:=decide_eq_false (by omega)
 cases h3:(netChk r.net != 0) with
 |true=>
   repeat' (first |(with_reducible first |refine aw_seq ?_|refine two_t ?_|refine two_f ?_|refine aw_block ?_)|((first |((with_reducible refine aw_regionA T_ok ?_ ?_);kernel_rfl)|((with_reducible refine callK_intro (hnc) ?_ ?_ ?_);(focus (with_unfolding_all rfl));kernel_rfl)|(with_reducible refine aw_skip ?_)|((with_reducible refine aw_condM ?_ ?_);kernel_rfl)|(with_reducible refine aw_ret ?_) );simp only [↓avP,avQ,avR,forall_const,implies_true,Nat.reduceEqDiff,Nat.reduceAdd,Nat.reduceLeDiff,reduceCtorEq,avS,roomD_B,ty_28,ty_22,ty_26,hd1,hd2,h3]))
   exact Sub.of_eq (congrArg aI (by rw [roomChk,if_pos (.inr (.inr (by simpa using h3)))]))
 |false=>
 have hno:¬ (r.peers.length < 1∨r.peers.length > 24∨netChk r.net≠0):=by
  have:netChk r.net=0:=by simpa using h3
  omega
 repeat' (first |(with_reducible first |refine aw_seq ?_|refine two_t ?_|refine two_f ?_|refine aw_block ?_)|((first |((with_reducible refine aw_regionA T_ok ?_ ?_);kernel_rfl)|((with_reducible refine callK_intro (hnc) ?_ ?_ ?_);(focus (with_unfolding_all rfl));kernel_rfl)|(with_reducible refine aw_skip ?_)|((with_reducible refine aw_condM ?_ ?_);kernel_rfl)|(with_reducible refine aw_ret ?_) );simp only [↓avP,avQ,avR,forall_const,implies_true,Nat.reduceEqDiff,Nat.reduceAdd,Nat.reduceLeDiff,reduceCtorEq,avS,roomD_B,ty_28,ty_22,ty_26,hd1,hd2,h3]))
 refine aw_loopI (fun k:Nat=>⟨[(1,.ptr 0 0),(2,vI 0),(3,vI k)],[(0,.cells 28 (dV (roomD r)))],1⟩) (fun k=>k≤r.peers.length∧∀ i,i < k→knownB (r.peers.getD i [])=true) (fun k=>r.peers.length - k) 0 ⟨Nat.zero_le _,fun i hi=>absurd hi (Nat.not_lt_zero i)⟩ (wk_of [(0,some 0)] rfl rfl ?_ ?_) ?_
 ·simp only [wkA,reduceIte,Nat.reduceEqDiff]
  (repeat' (first |rfl|exact subVs_d _ _))
 ·simp only [wkA,reduceIte,Nat.reduceEqDiff]
  (repeat' (first |rfl|exact subVs_d _ _))
 rintro k ⟨hkl,h0⟩
 rcases Nat.lt_or_ge k r.peers.length with hlt|hge
 ·have hd4:=ltd hlt
  have hg:=getD_peers r.peers k hlt
  have hmem:r.peers.getD k []∈r.peers:=mem_getD hlt
  obtain ⟨hl,hoo⟩:=hk _ hmem
  have hbadK:knownB (r.peers.getD k [])=false→roomChk r=540:=fun h=>by
   rw [roomChk,if_neg hno,List.all_eq_false.2 ⟨_,hmem,by rw [h];simp⟩,Bool.false_and,if_neg (by simp)]
  have hgood:knownB (r.peers.getD k [])=true→∀ i,i < k+1→knownB (r.peers.getD i [])=true:=fun h i hi=>by
   rcases Nat.lt_succ_iff_lt_or_eq.1 hi with h'|rfl
   ·exact h0 i h'
   ·exact h
  generalize r.peers.getD k []=l at *
  cases h5:decide ((l.length:Int) > 4096) with
  |true=>
    repeat' (first |(with_reducible first |refine aw_seq ?_|refine two_t ?_|refine two_f ?_)|((with_reducible refine And.intro ?_ ?_);(focus (omega)))|(with_reducible refine aw_block ?_)|((first |((with_reducible refine aw_regionA T_ok ?_ ?_);kernel_rfl)|(with_reducible refine aw_skip ?_)|((with_reducible refine aw_condM ?_ ?_);kernel_rfl)|(with_reducible refine aw_ret ?_) );simp only [↓avP,avQ,avR,forall_const,implies_true,Nat.reduceEqDiff,reduceCtorEq,roomD_B,ty_28,ty_22,ty_56,ty_49,hd4,hg,h5]))
    exact Sub.of_eq (congrArg aI (hbadK (by rw [knownB,decide_eq_false (by have:=of_decide_eq_true h5;omega),Bool.and_false])).symm)
  |false=>
  have hkb:knownB l=(List.range l.length).all (knownAt l):=by rw [knownB,decide_eq_true (by have:=of_decide_eq_false h5;omega),Bool.and_true]
  repeat' (first |(with_reducible first |refine aw_seq ?_|refine two_t ?_|refine two_f ?_)|((with_reducible refine And.intro ?_ ?_);(focus (omega)))|(with_reducible refine aw_block ?_)|((first |((with_reducible refine aw_regionA T_ok ?_ ?_);kernel_rfl)|(with_reducible refine aw_skip ?_)|((with_reducible refine aw_condM ?_ ?_);kernel_rfl)|(with_reducible refine aw_ret ?_) );simp only [↓avP,avQ,avR,forall_const,implies_true,Nat.reduceEqDiff,reduceCtorEq,roomD_B,ty_28,ty_22,ty_56,ty_49,hd4,hg,h5]))
  refine aw_loopI (fun j:Nat=>⟨[(1,.ptr 0 0),(2,vI 0),(3,vI k),(4,.d (handsD l)),(5,vI j)],[(0,.cells 28 (dV (roomD r)))],1⟩) (fun j=>j≤l.length∧∀ i,i < j→knownAt l i=true) (fun j=>l.length - j) 0 ⟨Nat.zero_le _,fun i hi=>absurd hi (Nat.not_lt_zero i)⟩ (wk_of [(0,some 0)] rfl rfl ?_ ?_) ?_
  ·simp only [wkA,reduceIte,Nat.reduceEqDiff]
   (repeat' (first |rfl|exact subVs_d _ _))
  ·simp only [wkA,reduceIte,Nat.reduceEqDiff]
   (repeat' (first |rfl|exact subVs_d _ _))
  rintro j ⟨hj,g0⟩
  rcases Nat.lt_or_ge j l.length with hjl|hjg
  ·have hd5:=ltd hjl
   have hgj:=getD_hands l j
   have hgj1:=getD_hands l (j - 1)
   have ht1:((j:Int) - 1).toNat=j - 1:=by omega
   have hbad:knownAt l j=false→roomChk r=540:=fun h=>hbadK (by
    rw [hkb,List.all_eq_false.2 ⟨j,by simpa using hjl,by rw [h];simp⟩])
   have hf:=q48formed_spec (l.getD j default)
   have hbe:=q54before_spec (l.getD (j - 1) default) (l.getD j default) (hOk_getD hoo _) (hOk_getD hoo _)
   cases hv:formB (l.getD j default) with
   |false=>
     rw [hv] at hf
     repeat' (first |(with_reducible first |refine aw_seq ?_|refine two_t ?_)|((with_reducible refine And.intro ?_ ?_);(focus (first |omega|grind)))|(with_reducible refine aw_block ?_)|((first |((with_reducible refine aw_regionA T_ok ?_ ?_);kernel_rfl)|((with_reducible refine aw_drawnA T_ok ?_ ?_ ?_ ?_);kernel_rfl;kernel_rfl;(focus (decide+kernel)))|((with_reducible refine callK_intro (hf) ?_ ?_ ?_);(focus (((repeat' (first |exact ta_n|refine ta_a ?_));done)));kernel_rfl)|((with_reducible refine callK_intro (hbe) ?_ ?_ ?_);(focus (((repeat' (first |exact ta_n|refine ta_a ?_));done)));kernel_rfl)|(with_reducible refine aw_skip ?_)|((with_reducible refine aw_condM ?_ ?_);kernel_rfl)|(with_reducible refine aw_ret ?_) );simp only [↓avP,avQ,avR,forall_const,implies_true,Nat.reduceEqDiff,Nat.reduceAdd,Nat.reduceLeDiff,reduceCtorEq,handS,ty_H,ty_49,hd5,hgj];try simp (disch:=omega) only [av_w,av_t1,Int.toNat_natCast]))
     exact Sub.of_eq (congrArg aI (hbad (by unfold knownAt;rw [hv];rfl)).symm)
   |true=>
   rw [hv] at hf
   have hnext:(decide (j=0)||befB (l.getD (j - 1) default) (l.getD j default))=true→∀ i,i < j+1→knownAt l i=true:=fun h i hi=>by
    rcases Nat.lt_succ_iff_lt_or_eq.1 hi with h'|rfl
    ·exact g0 i h'
    ·unfold knownAt;rw [hv,bef_cmp,h];rfl
   by_cases hj0:j=0
   ·have hz:decide ((j:Int) > 0)=false:=decide_eq_false (by omega)
    repeat' (first |(with_reducible first |refine aw_seq ?_|refine two_t ?_|refine two_f ?_)|((with_reducible refine And.intro ?_ ?_);(focus (first |omega|grind)))|(with_reducible refine aw_block ?_)|((first |((with_reducible refine aw_regionA T_ok ?_ ?_);kernel_rfl)|((with_reducible refine aw_drawnA T_ok ?_ ?_ ?_ ?_);kernel_rfl;kernel_rfl;(focus (decide+kernel)))|((with_reducible refine callK_intro (hf) ?_ ?_ ?_);(focus (((repeat' (first |exact ta_n|refine ta_a ?_));done)));kernel_rfl)|((with_reducible refine callK_intro (hbe) ?_ ?_ ?_);(focus (((repeat' (first |exact ta_n|refine ta_a ?_));done)));kernel_rfl)|(with_reducible refine aw_skip ?_)|((with_reducible refine aw_condM ?_ ?_);kernel_rfl) );simp only [↓avP,avQ,avR,forall_const,implies_true,Nat.reduceEqDiff,Nat.reduceAdd,Nat.reduceLeDiff,reduceCtorEq,handS,ty_H,ty_49,hd5,hgj,hz];try simp (disch:=omega) only [av_w,av_t1,Int.toNat_natCast]))
    refine ⟨j+1,⟨by omega,hnext (by rw [decide_eq_true hj0];rfl)⟩,by dsimp only;omega,wk_of [(0,some 0)] rfl rfl ?_ ?_⟩
    ·simp only [wkA,reduceIte,Nat.reduceEqDiff]
     (repeat' (first |rfl|exact subVs_d _ _))
    ·simp only [wkA,reduceIte,Nat.reduceEqDiff]
     (repeat' (first |rfl|exact subVs_d _ _))
   have hz:decide ((j:Int) > 0)=true:=decide_eq_true (by omega)
   have hw1:IntKind.i64.wrap ((j:Int) - 1)=(j:Int) - 1:=by rw [IntKind.wrap_i64];omega
   cases hb:befB (l.getD (j - 1) default) (l.getD j default) with
   |false=>
     rw [hb] at hbe
     repeat' (first |(with_reducible first |refine aw_seq ?_|refine two_t ?_|refine two_f ?_)|((with_reducible refine And.intro ?_ ?_);(focus (omega)))|(with_reducible refine aw_block ?_)|((first |((with_reducible refine aw_regionA T_ok ?_ ?_);kernel_rfl)|((with_reducible refine aw_drawnA T_ok ?_ ?_ ?_ ?_);kernel_rfl;kernel_rfl;(focus (decide+kernel)))|((with_reducible refine callK_intro (hf) ?_ ?_ ?_);(focus (((repeat' (first |exact ta_n|refine ta_a ?_));done)));kernel_rfl)|((with_reducible refine callK_intro (hbe) ?_ ?_ ?_);(focus (((repeat' (first |exact ta_n|refine ta_a ?_));done)));kernel_rfl)|(with_reducible refine aw_skip ?_)|((with_reducible refine aw_condM ?_ ?_);kernel_rfl)|(with_reducible refine aw_ret ?_) );simp only [↓avP,avQ,avR,forall_const,implies_true,Nat.reduceEqDiff,Nat.reduceAdd,Nat.reduceLeDiff,handS,ty_H,ty_49,hd5,hgj,hgj1,ht1,hz,hw1];try simp (disch:=omega) only [av_w,Int.toNat_natCast]))
     exact Sub.of_eq (congrArg aI (hbad (by unfold knownAt;rw [hv,decide_eq_false hj0,bef_cmp,hb];rfl)).symm)
   |true=>
     rw [hb] at hbe
     repeat' (first |(with_reducible first |refine aw_seq ?_|refine two_t ?_|refine two_f ?_)|((with_reducible refine And.intro ?_ ?_);(focus (omega)))|(with_reducible refine aw_block ?_)|((first |((with_reducible refine aw_regionA T_ok ?_ ?_);kernel_rfl)|((with_reducible refine aw_drawnA T_ok ?_ ?_ ?_ ?_);kernel_rfl;kernel_rfl;(focus (decide+kernel)))|((with_reducible refine callK_intro (hf) ?_ ?_ ?_);(focus (((repeat' (first |exact ta_n|refine ta_a ?_));done)));kernel_rfl)|((with_reducible refine callK_intro (hbe) ?_ ?_ ?_);(focus (((repeat' (first |exact ta_n|refine ta_a ?_));done)));kernel_rfl)|(with_reducible refine aw_skip ?_)|((with_reducible refine aw_condM ?_ ?_);kernel_rfl)|(with_reducible refine aw_ret ?_) );simp only [↓avP,avQ,avR,forall_const,implies_true,Nat.reduceEqDiff,Nat.reduceAdd,Nat.reduceLeDiff,handS,ty_H,ty_49,hd5,hgj,hgj1,ht1,hz,hw1];try simp (disch:=omega) only [av_w,Int.toNat_natCast]))
     refine ⟨j+1,⟨by omega,hnext (by rw [hb,Bool.or_true])⟩,by dsimp only;omega,wk_of [(0,some 0)] rfl rfl ?_ ?_⟩
     ·simp only [wkA,reduceIte,Nat.reduceEqDiff]
      (repeat' (first |rfl|exact subVs_d _ _))
     ·simp only [wkA,reduceIte,Nat.reduceEqDiff]
      (repeat' (first |rfl|exact subVs_d _ _))
  ·obtain rfl:j=l.length:=by omega
   have hd5:=ged (Nat.le_refl l.length)
   have hkt:knownB l=true:=by rw [hkb,List.all_eq_true];exact fun i hi=>g0 i (by simpa using hi)
   repeat' (first |(with_reducible first |refine aw_seq ?_|refine two_f ?_)|((first |((with_reducible refine aw_regionA T_ok ?_ ?_);kernel_rfl)|(with_reducible refine aw_exit ?_)|((with_reducible refine aw_condM ?_ ?_);kernel_rfl)|(with_reducible refine aw_ret ?_) );simp only [↓avP,avQ,avR,forall_const,implies_true,Nat.reduceEqDiff,reduceCtorEq,avS,roomD_B,ty_28,ty_49,ty_26,ty_23,hd5];try simp (disch:=omega) only [avW]))
   refine ⟨k+1,⟨by omega,hgood hkt⟩,by dsimp only;omega,wk_of [(0,some 0)] rfl rfl ?_ ?_⟩
   ·simp only [wkA,reduceIte,Nat.reduceEqDiff]
    (repeat' (first |rfl|exact subVs_d _ _))
   ·simp only [wkA,reduceIte,Nat.reduceEqDiff]
    (repeat' (first |rfl|exact subVs_d _ _))
 obtain rfl:k=r.peers.length:=by omega
 have hall:r.peers.all knownB=true:=List.all_eq_true.2 fun l hl=>by
  obtain ⟨i,hi,rfl⟩:=List.mem_iff_getElem.1 hl
  have:=h0 i hi
  rwa [List.getD_eq_getElem?_getD,List.getElem?_eq_getElem hi] at this
 have hd4:=ged (Nat.le_refl r.peers.length)
 repeat' (first |(with_reducible first |refine aw_seq ?_|refine two_f ?_|refine aw_block ?_)|((first |((with_reducible refine aw_regionA T_ok ?_ ?_);kernel_rfl)|(with_reducible refine aw_exit ?_)|((with_reducible refine aw_condM ?_ ?_);kernel_rfl) );simp only [↓avP,avQ,avR,forall_const,implies_true,Nat.reduceEqDiff,reduceCtorEq,avS,roomD_B,ty_28,ty_22,hd4]))
 refine aw_loopI (fun k:Nat=>⟨[(1,.ptr 0 0),(2,vI 0),(6,vI k)],[(0,.cells 28 (dV (roomD r)))],1⟩) (fun k=>k≤r.net.queue.length∧∀ i,i < k→pkB r.peers.length (r.net.queue.getD i default)=true) (fun k=>r.net.queue.length - k) 0 ⟨Nat.zero_le _,fun i hi=>absurd hi (Nat.not_lt_zero i)⟩ (wk_of [(0,some 0)] rfl rfl ?_ ?_) ?_
 ·simp only [wkA,reduceIte,Nat.reduceEqDiff]
  (repeat' (first |rfl|exact subVs_d _ _))
 ·simp only [wkA,reduceIte,Nat.reduceEqDiff]
  (repeat' (first |rfl|exact subVs_d _ _))
 rintro k ⟨hkl2,h02⟩
 rcases Nat.lt_or_ge k r.net.queue.length with hlt|hge
 ·have hd5:=ltd hlt
  have hmem:r.net.queue.getD k default∈r.net.queue:=mem_getD hlt
  have hrd:=q54read_spec (r.net.queue.getD k default).data (hq _ hmem)
  have hpk:=pk_max r.peers.length (r.net.queue.getD k default)
  have hbad:pkB r.peers.length (r.net.queue.getD k default)=false→roomChk r=540:=fun h=>by
   rw [roomChk,if_neg hno,List.all_eq_false.2 ⟨_,hmem,by rw [h];simp⟩,Bool.and_false,if_neg (by simp)]
  cases hv:(readH (r.net.queue.getD k default).data).2 with
  |false=>
    rw [hv] at hrd hpk
    repeat' (first |(with_reducible first |refine aw_seq ?_|refine two_t ?_)|((with_reducible refine And.intro ?_ ?_);(focus (first |omega|rfl)))|(with_reducible refine aw_block ?_)|((first |((with_reducible refine aw_regionA T_ok ?_ ?_);kernel_rfl)|((with_reducible refine callI_spec (hrd) ?_ ?_ ?_ ?_);(focus (with_unfolding_all rfl));kernel_rfl;kernel_rfl)|(with_reducible refine aw_skip ?_)|((with_reducible refine aw_condM ?_ ?_);kernel_rfl)|(with_reducible refine aw_ret ?_) );simp only [↓avP,avQ,avR,forall_const,implies_true,Nat.reduceEqDiff,Nat.reduceAdd,Nat.reduceLeDiff,reduceCtorEq,roomD_B,pkD_B,handS,hd_dr,↓zH_one,zH_map,ty_H,ty_3,ty_28,ty_22,ty_26,ty_23,ty_52,ty_50,hd5]))
    exact Sub.of_eq (congrArg aI (hbad (by rw [hpk];rfl)).symm)
  |true=>
  rw [hv] at hrd hpk
  cases m1:decide ((r.net.queue.getD k default).frm≥(r.peers.length:Int)) with
  |true=>
    rw [m1] at hpk
    repeat' (first |(with_reducible first |refine aw_seq ?_|refine two_t ?_)|((with_reducible refine And.intro ?_ ?_);(focus (first |omega|rfl)))|(with_reducible refine aw_block ?_)|((first |((with_reducible refine aw_regionA T_ok ?_ ?_);kernel_rfl)|((with_reducible refine callI_spec (hrd) ?_ ?_ ?_ ?_);(focus (with_unfolding_all rfl));kernel_rfl;kernel_rfl)|(with_reducible refine aw_skip ?_)|((with_reducible refine aw_condM ?_ ?_);kernel_rfl)|(with_reducible refine aw_ret ?_) );simp only [↓avP,avQ,avR,forall_const,implies_true,Nat.reduceEqDiff,Nat.reduceAdd,Nat.reduceLeDiff,reduceCtorEq,roomD_B,pkD_B,handS,hd_dr,↓zH_one,zH_map,ty_H,ty_3,ty_28,ty_22,ty_26,ty_23,ty_52,ty_50,hd5,m1]))
    exact Sub.of_eq (congrArg aI (hbad (by rw [hpk];rfl)).symm)
  |false=>
  rw [m1] at hpk
  cases m2:decide ((r.net.queue.getD k default).to_≥(r.peers.length:Int)) with
  |true=>
    rw [m2] at hpk
    repeat' (first |(with_reducible first |refine aw_seq ?_|refine two_t ?_|refine two_f ?_)|((with_reducible refine And.intro ?_ ?_);(focus (first |omega|rfl)))|(with_reducible refine aw_block ?_)|((first |((with_reducible refine aw_regionA T_ok ?_ ?_);kernel_rfl)|((with_reducible refine callI_spec (hrd) ?_ ?_ ?_ ?_);(focus (with_unfolding_all rfl));kernel_rfl;kernel_rfl)|(with_reducible refine aw_skip ?_)|((with_reducible refine aw_condM ?_ ?_);kernel_rfl)|(with_reducible refine aw_ret ?_) );simp only [↓avP,avQ,avR,forall_const,implies_true,Nat.reduceEqDiff,Nat.reduceAdd,Nat.reduceLeDiff,reduceCtorEq,roomD_B,pkD_B,handS,hd_dr,↓zH_one,zH_map,ty_H,ty_3,ty_28,ty_22,ty_26,ty_23,ty_52,ty_50,hd5,m1,m2];try simp (disch:=omega) only [avW]))
    exact Sub.of_eq (congrArg aI (hbad (by rw [hpk];rfl)).symm)
  |false=>
    rw [m2] at hpk
    repeat' (first |(with_reducible first |refine aw_seq ?_|refine two_t ?_|refine two_f ?_)|((with_reducible refine And.intro ?_ ?_);(focus (first |omega|rfl)))|(with_reducible refine aw_block ?_)|((first |((with_reducible refine aw_regionA T_ok ?_ ?_);kernel_rfl)|((with_reducible refine callI_spec (hrd) ?_ ?_ ?_ ?_);(focus (with_unfolding_all rfl));kernel_rfl;kernel_rfl)|(with_reducible refine aw_skip ?_)|((with_reducible refine aw_condM ?_ ?_);kernel_rfl)|(with_reducible refine aw_ret ?_) );simp only [↓avP,avQ,avR,forall_const,implies_true,Nat.reduceEqDiff,Nat.reduceAdd,Nat.reduceLeDiff,reduceCtorEq,roomD_B,pkD_B,handS,hd_dr,↓zH_one,zH_map,ty_H,ty_3,ty_28,ty_22,ty_26,ty_23,ty_52,ty_50,hd5,m1,m2];try simp (disch:=omega) only [avW]))
    refine ⟨k+1,⟨by omega,fun i hi=>?_⟩,by dsimp only;omega,wk_of [(0,some 0)] rfl rfl ?_ ?_⟩
    ·rcases Nat.lt_succ_iff_lt_or_eq.1 hi with h'|rfl
     ·exact h02 i h'
     ·rw [hpk];rfl
    ·simp only [wkA,reduceIte,Nat.reduceEqDiff]
     (repeat' (first |rfl|exact subVs_d _ _))
    ·simp only [wkA,reduceIte,Nat.reduceEqDiff]
     (repeat' (first |rfl|exact subVs_d _ _))
 ·obtain rfl:k=r.net.queue.length:=by omega
  have hd5:=ged (Nat.le_refl r.net.queue.length)
  repeat' (first |(with_reducible first |refine aw_seq ?_|refine two_f ?_)|((first |((with_reducible refine aw_regionA T_ok ?_ ?_);kernel_rfl)|(with_reducible refine aw_exit ?_)|((with_reducible refine aw_condM ?_ ?_);kernel_rfl)|(with_reducible refine aw_ret ?_) );simp only [↓avP,avQ,avR,forall_const,implies_true,Nat.reduceEqDiff,reduceCtorEq,avS,roomD_B,ty_28,ty_49,ty_26,ty_23,hd5];try simp (disch:=omega) only [avW]))
  refine Sub.of_eq (congrArg aI ?_)
  have hall2:r.net.queue.all (pkB r.peers.length)=true:=List.all_eq_true.2 fun l hl=>by
   obtain ⟨i,hi,rfl⟩:=List.mem_iff_getElem.1 hl
   have:=h02 i hi
   rwa [List.getD_eq_getElem?_getD,List.getElem?_eq_getElem hi] at this
  rw [roomChk,if_neg hno,hall,hall2];rfl

theorem q06Deliver_spec (n:NetP) (i:Int) (hn:okNet n):Spec Tryz.prog 57 [.agg (netD n),aI i] (.rt [aPk (if atErr n i=0 then delP n i else default),.agg (netD (loseN n i)),aI (atErr n i)]):=by
 have hs:=q06asked_spec n i hn
 refine spec_of T_ok Tryz.func57 (by dsimp only [Tryz.f57]) rfl rfl (by simp) fun w F=>?_
 cases h1:(atErr n i != 0) with
 |true=>
   have h0:¬ atErr n i=0:=by simpa using h1
   repeat' (first |(with_reducible first |refine aw_seq ?_|refine two_t ?_)|((with_reducible refine And.intro ?_ ?_);(focus (rfl)))|((first |((with_reducible refine aw_regionA T_ok ?_ ?_);kernel_rfl)|((with_reducible refine callI_spec (hs) ?_ ?_ ?_ ?_);(focus (with_unfolding_all rfl));kernel_rfl;kernel_rfl)|((with_reducible refine aw_condM ?_ ?_);kernel_rfl)|(with_reducible refine aw_ret ?_) );simp only [↓avP,avQ,avR,forall_const,implies_true,Nat.reduceEqDiff,Nat.reduceAdd,Nat.reduceLeDiff,reduceCtorEq,avS,netD_B,ty_52,ty_26,h1]))
   rw [if_neg h0,loseN,if_neg h0]
   exact ⟨sub_pk0,sub_net0,Sub.refl _⟩
 |false=>
   have h0:atErr n i=0:=by simpa using h1
   obtain ⟨k,rfl,hk⟩:=at_lt h0
   have hw:=q06without_spec n k hn hk
   have hat:atP n k=n.queue.getD k default:=by rw [atP,if_pos h0,Int.toNat_natCast]
   have hc:=q06IsCut_spec n (n.queue.getD k default).frm (n.queue.getD k default).to_ hn
   rw [if_pos h0,delP,hat,loseN,if_pos h0,Int.toNat_natCast,h0]
   cases h2:decide (mm (n.queue.getD k default).frm (n.queue.getD k default).to_∈n.apart) with
   |true=>
     rw [h2] at hc
     rw [if_pos (of_decide_eq_true h2)]
     repeat' (first |(with_reducible first |refine aw_seq ?_|refine two_t ?_|refine two_f ?_)|((with_reducible refine And.intro ?_ ?_);(focus (first |omega|rfl)))|((first |((with_reducible refine aw_regionA T_ok ?_ ?_);kernel_rfl)|((with_reducible refine aw_drawnF T_ok ?_ ?_ ?_ ?_);kernel_rfl;kernel_rfl;(focus (decide+kernel)))|((with_reducible refine callI_spec (hs) ?_ ?_ ?_ ?_);(focus (with_unfolding_all rfl));kernel_rfl;kernel_rfl)|((with_reducible refine callI_spec (hc) ?_ ?_ ?_ ?_);(focus (with_unfolding_all rfl));kernel_rfl;kernel_rfl)|((with_reducible refine callK_intro (hw) ?_ ?_ ?_);(focus (with_unfolding_all rfl));kernel_rfl)|(with_reducible refine aw_skip ?_)|((with_reducible refine aw_condM ?_ ?_);kernel_rfl)|(with_reducible refine aw_ret ?_) );simp only [↓avP,avQ,avR,forall_const,implies_true,Nat.reduceEqDiff,Nat.reduceAdd,Nat.reduceLeDiff,reduceCtorEq,avS,netD_B,pkD_B,ty_3,ty_52,ty_23,ty_26,h1]))
     exact ⟨sub_pk0,Sub.refl _,Sub.refl _⟩
   |false=>
     rw [h2] at hc
     rw [if_neg (of_decide_eq_false h2)]
     repeat' (first |(with_reducible first |refine aw_seq ?_|refine two_t ?_|refine two_f ?_)|((with_reducible refine And.intro ?_ ?_);(focus (first |omega|rfl)))|((first |((with_reducible refine aw_regionA T_ok ?_ ?_);kernel_rfl)|((with_reducible refine aw_drawnF T_ok ?_ ?_ ?_ ?_);kernel_rfl;kernel_rfl;(focus (decide+kernel)))|((with_reducible refine callI_spec (hs) ?_ ?_ ?_ ?_);(focus (with_unfolding_all rfl));kernel_rfl;kernel_rfl)|((with_reducible refine callI_spec (hc) ?_ ?_ ?_ ?_);(focus (with_unfolding_all rfl));kernel_rfl;kernel_rfl)|((with_reducible refine callK_intro (hw) ?_ ?_ ?_);(focus (with_unfolding_all rfl));kernel_rfl)|(with_reducible refine aw_skip ?_)|((with_reducible refine aw_condM ?_ ?_);kernel_rfl)|(with_reducible refine aw_ret ?_) );simp only [↓avP,avQ,avR,forall_const,implies_true,Nat.reduceEqDiff,Nat.reduceAdd,Nat.reduceLeDiff,reduceCtorEq,avS,netD_B,pkD_B,ty_3,ty_52,ty_23,ty_26,h1]))
     exact ⟨Sub.refl _,Sub.refl _,Sub.refl _⟩

theorem read_form {b:List UInt8} (h:(readH b).2=true):formB (readH b).1=true:=by
 have hp:=readP_ok h
 rw [← hp]
 unfold readP
 unfold readH at h
 cases hd:Cd.dec b with
 |none=>rw [hd] at h;cases h
 |some v=>
   rw [hd] at h
   simp only [rdV] at h ⊢
   by_cases h3:vK v=3∧(vL v).length=11
   ·rw [if_pos h3] at h
    rw [Bool.and_eq_true] at h
    rw [if_pos ⟨h3.1,h3.2,of_decide_eq_true h.1⟩]
    exact h.2
   ·rw [if_neg h3] at h
    cases h
theorem del_ok {r:RoomP} {i:Int} (ho:okRoom r) (hc:roomChk r=0) (h0:atErr r.net i=0) (hne:(delP r.net i).frm≠(delP r.net i).to_):
  0≤(delP r.net i).to_∧(delP r.net i).to_ < r.peers.length∧(delP r.net i).data.length≤1000000∧(readH (delP r.net i).data).2=true:=by
 obtain ⟨n1,n2,n3,n4⟩:=netChk_of hc
 have hq:atP r.net i∈r.net.queue:=by
  obtain ⟨k,hi,hl⟩:=at_lt h0
  unfold atP
  rw [if_pos h0,hi,Int.toNat_natCast]
  exact mem_getD hl
 have hpb:packetB (atP r.net i)=true:=by
  have:=n1
  unfold netChk at this
  split at this
  ·cases this
  ·rename_i hn
   cases hx:packetB (atP r.net i) with
   |true=>rfl
   |false=>exact absurd (.inr (List.any_eq_true.2 ⟨_,hq,by rw [hx];rfl⟩)) hn
 have he:delP r.net i=atP r.net i:=by
  unfold delP at hne ⊢
  split at hne
  ·exact absurd rfl hne
  ·rename_i hx;rw [if_neg hx]
 rw [he]
 exact ⟨(pk_pos hpb).1,(pk_to (n4 _ hq)).2,ho.2.2.2 _ hq,(pk_to (n4 _ hq)).1⟩
theorem q54deliver_spec (r:RoomP) (a:ActP) (ho:okRoom r) (hc:roomChk r=0) (hf:fewR r) (hk:a.kind=3):Spec Tryz.prog 26 [aRoom r,.agg (actD a)] (.rt [aRoom (doR r a),aI (doE r a)]):=by
 have hdo:=do_act (a:=a) hc
 rw [actE,if_neg (by omega),if_neg (by omega),if_pos (.inl hk)] at hdo
 have hds:=q06Deliver_spec r.net a.at_ ho.2.2.1
 rw [hdo]
 cases h1:(atErr r.net a.at_ != 0) with
 |true=>
   have h0:¬ atErr r.net a.at_=0:=by simpa using h1
   rw [if_neg h0,loseN,if_neg h0] at hds
   rw [doR,hdo,if_neg h0]
   rw [netD] at hds
   refine spec_of T_ok Tryz.func26 (by dsimp only [Tryz.f26]) rfl rfl (by simp) fun w F=>?_
   repeat' (first |(with_reducible first |refine aw_seq ?_|refine two_t ?_)|((with_reducible refine And.intro ?_ ?_);(focus (rfl)))|((first |((with_reducible refine aw_regionA T_ok ?_ ?_);kernel_rfl)|((with_reducible refine callI_spec (hds) ?_ ?_ ?_ ?_);(focus (with_unfolding_all rfl));kernel_rfl;kernel_rfl)|((with_reducible refine aw_condM ?_ ?_);kernel_rfl)|(with_reducible refine aw_ret ?_) );simp only [↓avP,avQ,avR,forall_const,implies_true,Nat.reduceEqDiff,Nat.reduceAdd,Nat.reduceLeDiff,reduceCtorEq,avS,roomD_B,actS,ty_A,netD_B,pkD_B,ty_3,ty_28,ty_26,ty_52,h1]))
   exact ⟨sub_room0,Sub.refl _⟩
 |false=>
 have h0:atErr r.net a.at_=0:=by simpa using h1
 have hdel:=del_ok ho hc h0
 have hR:doR r a=⟨if (delP r.net a.at_).frm=(delP r.net a.at_).to_ then r.peers else setPeer r.peers (delP r.net a.at_).to_ (readH (delP r.net a.at_).data).1,loseN r.net a.at_⟩:=by
  rw [doR,hdo,if_pos h0,actR,if_neg (by omega),if_neg (by omega),if_pos hk]
 rw [hR,h0]
 rw [if_pos h0,h0] at hds
 have h24:=(netChk_of hc).2.1
 have hrk:=room_ok ho hc
 have hf2:=hf.2
 generalize loseN r.net a.at_=N at *
 generalize delP r.net a.at_=p at *
 rw [netD] at hds
 cases h2:(p.frm==p.to_) with
 |true=>
   rw [if_pos (beq_iff_eq.1 h2)]
   refine spec_of T_ok Tryz.func26 (by dsimp only [Tryz.f26]) rfl rfl (by simp) fun w F=>?_
   repeat' (first |(with_reducible refine aw_seq ?_)|((with_reducible refine two_intro ?_ ?_)<;>intro h<;>first |contradiction|((first |(guard_hyp h:true=true;clear h)|(revert h;intro _))))|((with_reducible refine And.intro ?_ ?_);(focus (rfl)))|((first |((with_reducible refine aw_regionA T_ok ?_ ?_);kernel_rfl)|((with_reducible refine callI_spec (hds) ?_ ?_ ?_ ?_);(focus (with_unfolding_all rfl));kernel_rfl;kernel_rfl)|(with_reducible refine aw_skip ?_)|((with_reducible refine aw_condM ?_ ?_);kernel_rfl)|(with_reducible refine aw_ret ?_) );simp only [↓avP,avQ,avR,forall_const,implies_true,Nat.reduceEqDiff,Nat.reduceAdd,Nat.reduceLeDiff,reduceCtorEq,avS,↓rm_sN,roomD_B,actS,ty_A,netD_B,pkD_B,ty_3,ty_28,ty_26,ty_52,h2]))
   exact ⟨Sub.refl _,Sub.refl _⟩
 |false=>
 have hne:p.frm≠p.to_:=beq_eq_false_iff_ne.1 h2
 rw [if_neg hne]
 obtain ⟨g0,g1,g2,g3⟩:=hdel hne
 have hrd:=q54read_spec p.data g2
 rw [readP_ok g3,g3] at hrd
 obtain ⟨i,hi⟩:∃ i:Nat,p.to_=i:=⟨p.to_.toNat,by omega⟩
 have hil:i < r.peers.length:=by omega
 have hm:r.peers.getD i []∈r.peers:=mem_getD hil
 have hle:=q54learn1_spec ⟨r.peers,N⟩ i (readH p.data).1 hil h24 (hrk _ hm).1 (hrk _ hm).2 ⟨read_form g3,read_hOk g2⟩ (by have:=hf2 _ hm;dsimp only;omega)
 rw [← hi] at hle
 refine spec_of T_ok Tryz.func26 (by dsimp only [Tryz.f26]) rfl rfl (by simp) fun w F=>?_
 repeat' (first |(with_reducible refine aw_seq ?_)|((with_reducible refine two_intro ?_ ?_)<;>intro h<;>first |contradiction|((first |(guard_hyp h:false=false;clear h)|(revert h;intro _))))|((with_reducible refine And.intro ?_ ?_);(focus (rfl)))|((first |((with_reducible refine aw_regionA T_ok ?_ ?_);kernel_rfl)|((with_reducible refine callI_spec (hds) ?_ ?_ ?_ ?_);(focus (with_unfolding_all rfl));kernel_rfl;kernel_rfl)|((with_reducible refine callI_spec (hrd) ?_ ?_ ?_ ?_);(focus (with_unfolding_all rfl));kernel_rfl;kernel_rfl)|((with_reducible refine callI_spec (hle) ?_ ?_ ?_ ?_);(focus (((repeat' (first |exact ta_n|refine ta_a ?_|refine ta_d ?_));done)));kernel_rfl;kernel_rfl)|(with_reducible refine aw_skip ?_)|((with_reducible refine aw_condM ?_ ?_);kernel_rfl)|(with_reducible refine aw_ret ?_) );simp only [↓avP,avQ,avR,forall_const,implies_true,Nat.reduceEqDiff,Nat.reduceAdd,Nat.reduceLeDiff,reduceCtorEq,avS,↓rm_sN,roomD_B,actS,ty_A,netD_B,pkD_B,handS,hd_dr,↓zH_one,zH_map,ty_H,ty_3,ty_28,ty_26,ty_52,ty_50,h2]))
 exact ⟨Sub.refl _,Sub.refl _⟩
theorem q54do_spec (r:RoomP) (a:ActP) (ho:okRoom r) (hf:roomChk r=0→fewR r) (ha:hOk a.hand):Spec Tryz.prog 7 [aRoom r,.agg (actD a)] (.rt [aRoom (doR r a),aI (doE r a)]):=by
 have hcs:=q54check_spec r ho
 cases h1:(roomChk r != 0) with
 |true=>
   have h0:roomChk r≠0:=by simpa using h1
   have hE:doE r a=540:=by rw [doE,if_pos h0]
   rw [doR,hE,if_neg (by decide)]
   refine spec_of T_ok Tryz.func7 (by dsimp only [Tryz.f7]) rfl rfl (by simp) fun w F=>?_
   repeat' (first |(with_reducible first |refine aw_seq ?_|refine two_t ?_)|((with_reducible refine And.intro ?_ ?_);(focus (rfl)))|((first |((with_reducible refine aw_regionA T_ok ?_ ?_);kernel_rfl)|((with_reducible refine callI_spec (hcs) ?_ ?_ ?_ ?_);(focus (with_unfolding_all rfl));kernel_rfl;kernel_rfl)|((with_reducible refine aw_condM ?_ ?_);kernel_rfl)|(with_reducible refine aw_ret ?_) );simp only [↓avP,avQ,avR,forall_const,implies_true,Nat.reduceEqDiff,Nat.reduceAdd,Nat.reduceLeDiff,reduceCtorEq,avS,roomD_B,ty_28,h1]))
   exact ⟨sub_room0,Sub.refl _⟩
 |false=>
 have hc:roomChk r=0:=by simpa using h1
 have hf:=hf hc
 by_cases k1:a.kind=1
 ·have e1:(a.kind==1)=true:=by simpa using k1
  have ht:=q54tell_spec r a ho hc hf ha k1
  refine spec_of T_ok Tryz.func7 (by dsimp only [Tryz.f7]) rfl rfl (by simp) fun w F=>?_
  repeat' (first |(with_reducible first |refine aw_seq ?_|refine two_t ?_|refine two_f ?_)|((with_reducible refine And.intro ?_ ?_);(focus (rfl)))|(with_reducible refine aw_block ?_)|((first |((with_reducible refine aw_regionA T_ok ?_ ?_);kernel_rfl)|((with_reducible refine callI_spec (hcs) ?_ ?_ ?_ ?_);(focus (with_unfolding_all rfl));kernel_rfl;kernel_rfl)|((with_reducible refine callI_spec (ht) ?_ ?_ ?_ ?_);(focus (((repeat' (first |exact ta_n|refine ta_a ?_));done)));kernel_rfl;kernel_rfl)|(with_reducible refine aw_skip ?_)|((with_reducible refine aw_condM ?_ ?_);kernel_rfl)|(with_reducible refine aw_ret ?_) );simp only [↓avP,avQ,avR,forall_const,implies_true,Nat.reduceEqDiff,Nat.reduceAdd,Nat.reduceLeDiff,reduceCtorEq,avS,roomD_B,actS,ty_A,ty_3,ty_28,h1,e1]))
  exact ⟨Sub.refl _,Sub.refl _⟩
 have e1:(a.kind==1)=false:=by simpa using k1
 by_cases k2:a.kind=2
 ·have e2:(a.kind==2)=true:=by simpa using k2
  have ht:=q54sync_spec r a ho hc hf k2
  refine spec_of T_ok Tryz.func7 (by dsimp only [Tryz.f7]) rfl rfl (by simp) fun w F=>?_
  repeat' (first |(with_reducible first |refine aw_seq ?_|refine two_t ?_|refine two_f ?_)|((with_reducible refine And.intro ?_ ?_);(focus (rfl)))|(with_reducible refine aw_block ?_)|((first |((with_reducible refine aw_regionA T_ok ?_ ?_);kernel_rfl)|((with_reducible refine callI_spec (hcs) ?_ ?_ ?_ ?_);(focus (with_unfolding_all rfl));kernel_rfl;kernel_rfl)|((with_reducible refine callI_spec (ht) ?_ ?_ ?_ ?_);(focus (((repeat' (first |exact ta_n|refine ta_a ?_));done)));kernel_rfl;kernel_rfl)|(with_reducible refine aw_skip ?_)|((with_reducible refine aw_condM ?_ ?_);kernel_rfl)|(with_reducible refine aw_ret ?_) );simp only [↓avP,avQ,avR,forall_const,implies_true,Nat.reduceEqDiff,Nat.reduceAdd,Nat.reduceLeDiff,reduceCtorEq,avS,roomD_B,actS,ty_A,ty_3,ty_28,h1,e1,e2]))
  exact ⟨Sub.refl _,Sub.refl _⟩
 have e2:(a.kind==2)=false:=by simpa using k2
 by_cases k3:a.kind=3
 ·have e3:(a.kind==3)=true:=by simpa using k3
  have ht:=q54deliver_spec r a ho hc hf k3
  refine spec_of T_ok Tryz.func7 (by dsimp only [Tryz.f7]) rfl rfl (by simp) fun w F=>?_
  repeat' (first |(with_reducible first |refine aw_seq ?_|refine two_t ?_|refine two_f ?_)|((with_reducible refine And.intro ?_ ?_);(focus (rfl)))|(with_reducible refine aw_block ?_)|((first |((with_reducible refine aw_regionA T_ok ?_ ?_);kernel_rfl)|((with_reducible refine callI_spec (hcs) ?_ ?_ ?_ ?_);(focus (with_unfolding_all rfl));kernel_rfl;kernel_rfl)|((with_reducible refine callI_spec (ht) ?_ ?_ ?_ ?_);(focus (((repeat' (first |exact ta_n|refine ta_a ?_));done)));kernel_rfl;kernel_rfl)|(with_reducible refine aw_skip ?_)|((with_reducible refine aw_condM ?_ ?_);kernel_rfl)|(with_reducible refine aw_ret ?_) );simp only [↓avP,avQ,avR,forall_const,implies_true,Nat.reduceEqDiff,Nat.reduceAdd,Nat.reduceLeDiff,reduceCtorEq,avS,roomD_B,actS,ty_A,ty_3,ty_28,h1,e1,e2,e3]))
  exact ⟨Sub.refl _,Sub.refl _⟩
 have e3:(a.kind==3)=false:=by simpa using k3
 have hdo:=do_act (a:=a) hc
 by_cases k4:a.kind=4
 ·have e4:(a.kind==4)=true:=by simpa using k4
  have e5:(a.kind==5)=false:=by simp;omega
  rw [actE,if_neg k1,if_neg k2,if_pos (.inr k4)] at hdo
  have hl:=q06Lose_spec r.net a.at_ ho.2.2.1
  cases h2:(atErr r.net a.at_ != 0) with
  |true=>
    have h0:¬ atErr r.net a.at_=0:=by simpa using h2
    rw [netD] at hl
    rw [doR,hdo,if_neg h0]
    refine spec_of T_ok Tryz.func7 (by dsimp only [Tryz.f7]) rfl rfl (by simp) fun w F=>?_
    repeat' (first |(with_reducible first |refine aw_seq ?_|refine two_t ?_|refine two_f ?_)|((with_reducible refine And.intro ?_ ?_);(focus (rfl)))|(with_reducible refine aw_block ?_)|((first |((with_reducible refine aw_regionA T_ok ?_ ?_);kernel_rfl)|((with_reducible refine callI_spec (hcs) ?_ ?_ ?_ ?_);(focus (with_unfolding_all rfl));kernel_rfl;kernel_rfl)|((with_reducible refine callI_spec (hl) ?_ ?_ ?_ ?_);(focus (with_unfolding_all rfl));kernel_rfl;kernel_rfl)|(with_reducible refine aw_skip ?_)|((with_reducible refine aw_condM ?_ ?_);kernel_rfl)|(with_reducible refine aw_ret ?_) );simp only [↓avP,avQ,avR,forall_const,implies_true,Nat.reduceEqDiff,Nat.reduceAdd,Nat.reduceLeDiff,reduceCtorEq,avS,↓rm_sN,roomD_B,actS,ty_A,netD_B,ty_3,ty_28,ty_26,h1,e1,e2,e3,e4,h2]))
    exact ⟨sub_room0,Sub.refl _⟩
  |false=>
    have h0:atErr r.net a.at_=0:=by simpa using h2
    rw [doR,hdo,if_pos h0,actR,if_neg k1,if_neg k2,if_neg k3,if_pos k4,h0]
    rw [h0] at hl
    generalize loseN r.net a.at_=N at *
    rw [netD] at hl
    refine spec_of T_ok Tryz.func7 (by dsimp only [Tryz.f7]) rfl rfl (by simp) fun w F=>?_
    repeat' (first |(with_reducible refine aw_seq ?_)|((with_reducible refine two_intro ?_ ?_)<;>intro h<;>first |contradiction|((first |(guard_hyp h:true=true;clear h)|(guard_hyp h:false=false;clear h)|(revert h;intro _))))|((with_reducible refine And.intro ?_ ?_);(focus (rfl)))|(with_reducible refine aw_block ?_)|((first |((with_reducible refine aw_regionA T_ok ?_ ?_);kernel_rfl)|((with_reducible refine callI_spec (hcs) ?_ ?_ ?_ ?_);(focus (with_unfolding_all rfl));kernel_rfl;kernel_rfl)|((with_reducible refine callI_spec (hl) ?_ ?_ ?_ ?_);(focus (with_unfolding_all rfl));kernel_rfl;kernel_rfl)|(with_reducible refine aw_skip ?_)|((with_reducible refine aw_condM ?_ ?_);kernel_rfl)|(with_reducible refine aw_ret ?_) );simp only [↓avP,avQ,avR,forall_const,implies_true,Nat.reduceEqDiff,Nat.reduceAdd,Nat.reduceLeDiff,reduceCtorEq,avS,↓rm_sN,roomD_B,actS,ty_A,netD_B,ty_3,ty_28,ty_26,h1,e1,e2,e3,e4]))
    exact ⟨Sub.refl _,Sub.refl _⟩
 have e4:(a.kind==4)=false:=by simpa using k4
 by_cases k5:a.kind=5
 ·have e5:(a.kind==5)=true:=by simpa using k5
  rw [actE,if_neg k1,if_neg k2,if_neg (by omega),if_pos k5] at hdo
  have hl:=q06Repeat_spec r.net a.at_ ho.2.2.1
  cases h2:(repErr r.net a.at_ != 0) with
  |true=>
    have h0:¬ repErr r.net a.at_=0:=by simpa using h2
    rw [netD] at hl
    rw [doR,hdo,if_neg h0]
    refine spec_of T_ok Tryz.func7 (by dsimp only [Tryz.f7]) rfl rfl (by simp) fun w F=>?_
    repeat' (first |(with_reducible first |refine aw_seq ?_|refine two_t ?_|refine two_f ?_)|((with_reducible refine And.intro ?_ ?_);(focus (rfl)))|(with_reducible refine aw_block ?_)|((first |((with_reducible refine aw_regionA T_ok ?_ ?_);kernel_rfl)|((with_reducible refine callI_spec (hcs) ?_ ?_ ?_ ?_);(focus (with_unfolding_all rfl));kernel_rfl;kernel_rfl)|((with_reducible refine callI_spec (hl) ?_ ?_ ?_ ?_);(focus (with_unfolding_all rfl));kernel_rfl;kernel_rfl)|(with_reducible refine aw_skip ?_)|((with_reducible refine aw_condM ?_ ?_);kernel_rfl)|(with_reducible refine aw_ret ?_) );simp only [↓avP,avQ,avR,forall_const,implies_true,Nat.reduceEqDiff,Nat.reduceAdd,Nat.reduceLeDiff,reduceCtorEq,avS,↓rm_sN,roomD_B,actS,ty_A,netD_B,ty_3,ty_28,ty_26,h1,e1,e2,e3,e4,e5,h2]))
    exact ⟨sub_room0,Sub.refl _⟩
  |false=>
    have h0:repErr r.net a.at_=0:=by simpa using h2
    rw [doR,hdo,if_pos h0,actR,if_neg k1,if_neg k2,if_neg k3,if_neg k4,h0]
    rw [h0] at hl
    generalize repN r.net a.at_=N at *
    rw [netD] at hl
    refine spec_of T_ok Tryz.func7 (by dsimp only [Tryz.f7]) rfl rfl (by simp) fun w F=>?_
    repeat' (first |(with_reducible refine aw_seq ?_)|((with_reducible refine two_intro ?_ ?_)<;>intro h<;>first |contradiction|((first |(guard_hyp h:true=true;clear h)|(guard_hyp h:false=false;clear h)|(revert h;intro _))))|((with_reducible refine And.intro ?_ ?_);(focus (rfl)))|(with_reducible refine aw_block ?_)|((first |((with_reducible refine aw_regionA T_ok ?_ ?_);kernel_rfl)|((with_reducible refine callI_spec (hcs) ?_ ?_ ?_ ?_);(focus (with_unfolding_all rfl));kernel_rfl;kernel_rfl)|((with_reducible refine callI_spec (hl) ?_ ?_ ?_ ?_);(focus (with_unfolding_all rfl));kernel_rfl;kernel_rfl)|(with_reducible refine aw_skip ?_)|((with_reducible refine aw_condM ?_ ?_);kernel_rfl)|(with_reducible refine aw_ret ?_) );simp only [↓avP,avQ,avR,forall_const,implies_true,Nat.reduceEqDiff,Nat.reduceAdd,Nat.reduceLeDiff,reduceCtorEq,avS,↓rm_sN,roomD_B,actS,ty_A,netD_B,ty_3,ty_28,ty_26,h1,e1,e2,e3,e4,e5]))
    exact ⟨Sub.refl _,Sub.refl _⟩
 ·have e5:(a.kind==5)=false:=by simpa using k5
  rw [actE,if_neg k1,if_neg k2,if_neg (by omega),if_neg k5] at hdo
  rw [doR,hdo,if_neg (by decide)]
  refine spec_of T_ok Tryz.func7 (by dsimp only [Tryz.f7]) rfl rfl (by simp) fun w F=>?_
  repeat' (first |(with_reducible refine aw_seq ?_)|((with_reducible refine two_intro ?_ ?_)<;>intro h<;>first |contradiction|((first |(guard_hyp h:false=false;clear h)|(revert h;intro _))))|((with_reducible refine And.intro ?_ ?_);(focus (rfl)))|(with_reducible refine aw_block ?_)|((first |((with_reducible refine aw_regionA T_ok ?_ ?_);kernel_rfl)|((with_reducible refine callI_spec (hcs) ?_ ?_ ?_ ?_);(focus (with_unfolding_all rfl));kernel_rfl;kernel_rfl)|(with_reducible refine aw_skip ?_)|((with_reducible refine aw_condM ?_ ?_);kernel_rfl)|(with_reducible refine aw_ret ?_) );simp only [↓avP,avQ,avR,forall_const,implies_true,Nat.reduceEqDiff,Nat.reduceAdd,Nat.reduceLeDiff,reduceCtorEq,avS,roomD_B,actS,ty_A,ty_3,ty_28,h1,e1,e2,e3,e4,e5]))
  exact ⟨sub_room0,Sub.refl _⟩
end Go.Proofs.YthidfoohhhkobaaGreat
