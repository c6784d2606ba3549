import Derived.Test.YthidfoohhhkobaaGreatG11
import Derived.Test.YthidfoohhhkobaaGreatG16
import Derived.Test.YthidfoohhhkobaaGreatG15
import Derived.Test.YthidfoohhhkobaaGreatG8
namespace Go.Proofs.YthidfoohhhkobaaGreat
set_option linter.unusedSimpArgs false
set_option linter.unusedVariables false
open Go.RowKit
set_option maxRecDepth 100000
set_option maxHeartbeats 4000000
theorem valD_ln (v:Cd.V):(valD v).length=4:=by cases v;rfl
theorem q54message_spec (h:Hd) (hh:hOk h):Spec Tryz.prog 14 [.agg (handD h)] (.r1 (.one (bsD (msg h)))):=by
 have henc:=rcdEnc_spec (msgV h) (msg_vOk h hh) (by rw [msg_depth];omega) (by have:=msg_len h;exact Nat.le_trans this (by omega))
 rw [msg_out,msg_chk] at henc
 have hl:=fun d0=>q13list_spec [intV h.line,intV h.at_,intV h.arr,intV h.leg,intV h.frm,intV h.to_,intV h.many,.mk 2 0 h.root.toList [],intV h.time,intV h.se,intV h.ss] d0
 simp only [valsD] at hl
 rw [show Cd.V.mk 3 0 [] [intV h.line,intV h.at_,intV h.arr,intV h.leg,intV h.frm,intV h.to_,intV h.many,.mk 2 0 h.root.toList [],intV h.time,intV h.se,intV h.ss]=msgV h from rfl] at hl
 have hl4:=valD_ln (msgV h)
 generalize valD (msgV h)=vm at *
 refine spec_of T_ok Tryz.func14 (by dsimp only [Tryz.f14]) rfl rfl (by simp) fun w F=>?_
 repeat' (first |(with_reducible refine aw_seq ?_)|((with_reducible refine two_intro ?_ ?_)<;>intro h<;>first |contradiction|(((revert h;intro _))))|((with_reducible refine And.intro ?_ ?_);(focus (first |omega|rfl|decide)))|(with_reducible refine aw_block ?_)|((first |(with_reducible refine aw_unroll 9 ?_)|((with_reducible refine un_step ?_ ?_);(focus decide))|((with_reducible refine aw_regionA T_ok ?_ ?_);kernel_rfl)|((with_reducible refine aw_drawnF T_ok ?_ ?_ ?_ ?_);kernel_rfl;kernel_rfl;(focus (decide+kernel)))|((with_reducible refine callK_intro (q13number_spec _) (by repeat' (first |exact ta_n|refine ta_d ?_)) ?_ ?_);kernel_rfl)|((with_reducible refine callI_spec (q13number_spec _) (by repeat' (first |exact ta_n|refine ta_d ?_)) ?_ ?_ ?_);kernel_rfl;kernel_rfl)|((with_reducible refine callK_intro (q13text_spec h.root) ?_ ?_ ?_);(focus (((repeat' (first |exact ta_n|refine ta_a ?_));done)));kernel_rfl)|((with_reducible refine callI_spec (hl _) (by repeat' (first |exact ta_n|refine ta_o ?_)) ?_ ?_ ?_);kernel_rfl;kernel_rfl)|((with_reducible refine callI_spec (henc) ?_ ?_ ?_ ?_);(focus (((repeat' (first |exact ta_n|refine ta_a ?_));done)));kernel_rfl;kernel_rfl)|(with_reducible first |refine aw_skip ?_|refine aw_exit ?_)|((with_reducible refine aw_condM ?_ ?_);kernel_rfl)|(with_reducible refine aw_ret ?_) );simp only [↓avP,avQ,avR,forall_const,implies_true,Nat.reduceEqDiff,Nat.reduceAdd,Nat.reduceSub,Int.reduceToNat,Nat.reduceLeDiff,Nat.reduceLT,reduceCtorEq,avS,Int.reduceAdd,valD_ln,List.getD_cons_zero,List.getD_cons_succ,handS,ty_H,ty_3,ty_30,ty_34,ty_32,ty_79,ty_76,ty_77,List.length_drop];try simp (disch:=omega) only [av_w]))
 exact Sub.refl _
theorem q54before_spec (a b:Hd) (ha:hOk a) (hb:hOk b):Spec Tryz.prog 36 [.agg (handD a),.agg (handD b)] (.r1 (aB (befB a b))):=by
 have m1:=q54message_spec a ha
 have m2:=q54message_spec b hb
 have l1:(msg a).length≤140737488351232:=by have:=msg_len a;omega
 have l2:(msg b).length≤140737488351232:=by have:=msg_len b;omega
 have hbl:=bless_cmp (msg a) (msg b)
 refine spec_of T_ok Tryz.func36 (by dsimp only [Tryz.f36]) rfl rfl (by simp) fun w F=>?_
 repeat' (first |(with_reducible refine aw_seq ?_)|((first |((with_reducible refine aw_regionA T_ok ?_ ?_);kernel_rfl)|((with_reducible refine aw_drawnA T_ok ?_ ?_ ?_ ?_);kernel_rfl;kernel_rfl;(focus (decide+kernel)))|((with_reducible refine callK_intro (m1) ?_ ?_ ?_);(focus (((repeat' (first |exact ta_n|refine ta_a ?_));done)));kernel_rfl)|((with_reducible refine callK_intro (m2) ?_ ?_ ?_);(focus (((repeat' (first |exact ta_n|refine ta_a ?_));done)));kernel_rfl)|(with_reducible refine aw_ret ?_) );simp only [↓avP,avQ,avR,forall_const,implies_true,Nat.reduceEqDiff,Nat.reduceAdd,Nat.reduceLeDiff,reduceCtorEq,avS,handS,u8s_by,strOf_by,str_tl,ty_H,ty_50,ty_9,ty_5,hbl]))
 exact Sub.refl _

theorem q54learn_spec (t:List Hd) (h:Hd) (ho:ordH t) (hf:∀ x∈t,fH x) (hh:fH h) (hl:t.length < 4096):Spec Tryz.prog 86 [.one (handsD t),.agg (handD h)] (.rt [.one (handsD (learnL t h)),aI 0]):=by
 have hlen:=lbH_le t h
 refine spec_of T_ok Tryz.func86 (by dsimp only [Tryz.f86]) rfl rfl (by simp) fun w F=>?_
 repeat' (first |(with_reducible first |refine aw_seq ?_|refine aw_block ?_)|((((with_reducible refine aw_regionA T_ok ?_ ?_);kernel_rfl) );simp only [↓avP,avQ,avR,forall_const,implies_true,Nat.reduceEqDiff,Nat.reduceAdd,reduceCtorEq]))
 refine aw_loopI (fun k:Nat=>⟨[(0,.d (handsD t)),(3,.ptr 0 0),(6,vI k)],[(0,.cells 36 (dV (handD h)))],1⟩) (fun k=>k≤t.length∧∀ i,i < k→befB (t.getD i default) h=true) (fun k=>t.length - k) 0 ⟨Nat.zero_le _,fun i hi=>absurd hi (Nat.not_lt_zero i)⟩ (wk_of [(0,some 0)] rfl rfl ?_ ?_) ?_
 ·simp only [wkA,reduceIte,Nat.reduceEqDiff]
  (repeat' (first |rfl|exact subVs_d _ _))
 ·simp only [wkA,reduceIte,Nat.reduceEqDiff]
  (repeat' (first |rfl|exact subVs_d _ _))
 rintro k ⟨hk,h0⟩
 have rest:(k < t.length→befB (t.getD k default) h=false)→lbH t h=k:=fun hb=>lbH_of hk h0 hb
 have ins_eq:foundH t h=false→handsD (learnL t h)= .sl 42 (handD default) ((t.map handD).take (lbH t h)++[handD h]++(t.map handD).drop (lbH t h)):=fun e=>by
  unfold learnL
  rw [if_neg (by rw [e];simp)]
  simp [List.map_append,List.map_take,List.map_drop]
 have nf:t.getD (lbH t h) default≠h→foundH t h=false:=fun e=>by
  unfold foundH
  cases hc:decide (lbH t h < t.length) with
  |false=>rfl
  |true=>
    rw [Bool.true_and]
    have hm:t.getD (lbH t h) default∈t:=mem_getD (of_decide_eq_true hc)
    refine beq_eq_false_iff_ne.2 fun hz=>e ?_
    exact msg_inj (hf _ hm).2 hh.2 (hf _ hm).1 hh.1 (cmpB_zero hz)
 rcases Nat.lt_or_ge k t.length with hlt|hge
 ·have hd2:=ltd hlt
  have hm:t.getD k default∈t:=mem_getD hlt
  have hbs:=q54before_spec (t.getD k default) h (hf _ hm).2 hh.2
  cases hb:befB (t.getD k default) h with
  |true=>
    rw [hb] at hbs
    repeat' (first |(with_reducible first |refine aw_seq ?_|refine two_t ?_)|((with_reducible refine And.intro ?_ ?_);(focus (omega)))|(with_reducible refine aw_block ?_)|((first |((with_reducible refine aw_regionA T_ok ?_ ?_);kernel_rfl)|((with_reducible refine aw_drawnA T_ok ?_ ?_ ?_ ?_);kernel_rfl;kernel_rfl;(focus (decide+kernel)))|((with_reducible refine callK_intro (hbs) ?_ ?_ ?_);(focus (((repeat' (first |exact ta_n|refine ta_a ?_));done)));kernel_rfl)|(with_reducible refine aw_skip ?_)|((with_reducible refine aw_condM ?_ ?_);kernel_rfl) );simp only [↓avP,avQ,avR,forall_const,implies_true,Nat.reduceEqDiff,Nat.reduceAdd,Nat.reduceLeDiff,reduceCtorEq,avS,handS,ty_H,ty_49,hd2];try simp (disch:=omega) only [av_w,Int.toNat_natCast]))
    refine ⟨k+1,⟨by omega,fun i hi=>?_⟩,by dsimp only;omega,wk_of [(0,some 0)] rfl rfl ?_ ?_⟩
    ·rcases Nat.lt_succ_iff_lt_or_eq.1 hi with h'|rfl
     ·exact h0 i h'
     ·exact hb
    ·simp only [wkA,reduceIte,Nat.reduceEqDiff]
     (repeat' (first |rfl|exact subVs_d _ _))
    ·simp only [wkA,reduceIte,Nat.reduceEqDiff]
     (repeat' (first |rfl|exact subVs_d _ _))
  |false=>
    rw [hb] at hbs
    have hlb:=rest fun _=>hb
    by_cases he:t.getD k default=h
    ·have hde:decide (t.getD k default=h)=true:=decide_eq_true he
     repeat' (first |(with_reducible first |refine aw_seq ?_|refine two_t ?_|refine two_f ?_)|((with_reducible refine And.intro ?_ ?_);(focus (first |exact eqHand|omega)))|((first |((with_reducible refine aw_regionA T_ok ?_ ?_);kernel_rfl)|((with_reducible refine aw_drawnA T_ok ?_ ?_ ?_ ?_);kernel_rfl;kernel_rfl;(focus (decide+kernel)))|((with_reducible refine callK_intro (hbs) ?_ ?_ ?_);(focus (((repeat' (first |exact ta_n|refine ta_a ?_));done)));kernel_rfl)|(with_reducible refine aw_exit ?_)|((with_reducible refine aw_condM ?_ ?_);kernel_rfl)|(with_reducible refine aw_ret ?_) );simp only [↓avP,avQ,avR,forall_const,implies_true,Nat.reduceEqDiff,Nat.reduceAdd,Nat.reduceLeDiff,reduceCtorEq,avS,handS,ty_H,ty_49,hd2,hde];try simp (disch:=omega) only [Int.toNat_natCast]))
     rw [learn_known ho hf (he ▸ hm)]
     exact ⟨Sub.refl _,Sub.refl _⟩
    ·have hde:decide (t.getD k default=h)=false:=decide_eq_false he
     have hlm:((t.length:Int)==4096)=false:=by simp;omega
     repeat' (first |(with_reducible first |refine aw_seq ?_|refine two_f ?_)|((with_reducible refine And.intro ?_ ?_);(focus (first |exact eqHand|omega|rfl|decide|grind)))|((first |((with_reducible refine aw_regionA T_ok ?_ ?_);kernel_rfl)|((with_reducible refine aw_drawnA T_ok ?_ ?_ ?_ ?_);kernel_rfl;kernel_rfl;(focus (decide+kernel)))|((with_reducible refine aw_drawnC T_ok ?_ ?_ ?_ ?_);kernel_rfl;kernel_rfl;(focus (decide+kernel)))|((with_reducible refine callK_intro (hbs) ?_ ?_ ?_);(focus (((repeat' (first |exact ta_n|refine ta_a ?_));done)));kernel_rfl)|(with_reducible first |refine aw_skip ?_|refine aw_exit ?_)|((with_reducible refine aw_condM ?_ ?_);kernel_rfl)|(with_reducible refine aw_ret ?_) );simp only [↓avP,avQ,avR,forall_const,implies_true,Nat.reduceEqDiff,Nat.reduceAdd,Nat.reduceSub,Nat.reduceLeDiff,Nat.reduceLT,reduceCtorEq,↓hwpC.eq_def,↓hopC.eq_def,↓apKH.eq_def,↓apH.eq_def,rqOk,lkC,delO,takes,whoMakes,headC,tailC,isTC,Option.some.injEq,avS,handS,↓zH_D,ty_H,ty_49,hd2,hde,hlm];try simp (disch:=omega) only [Int.toNat_natCast]))
     refine ⟨Sub.of_eq (congrArg A.one ?_),Sub.refl _⟩
     rw [ins_eq (nf fun e=>he (by rw [← hlb];exact e)),hlb]
 ·obtain rfl:k=t.length:=by omega
  have hd2:=ged (Nat.le_refl t.length)
  have hlb:=rest fun h=>absurd h (Nat.lt_irrefl _)
  have hlm:((t.length:Int)==4096)=false:=by simp;omega
  have hbs:=q54before_spec (t.getD t.length default) h (hOk_getD (fun x hx=>(hf x hx).2) _) hh.2
  repeat' (first |(with_reducible first |refine aw_seq ?_|refine two_f ?_)|((with_reducible refine And.intro ?_ ?_);(focus (first |exact eqHand|omega|rfl|decide|grind)))|((first |((with_reducible refine aw_regionA T_ok ?_ ?_);kernel_rfl)|((with_reducible refine aw_drawnA T_ok ?_ ?_ ?_ ?_);kernel_rfl;kernel_rfl;(focus (decide+kernel)))|((with_reducible refine aw_drawnC T_ok ?_ ?_ ?_ ?_);kernel_rfl;kernel_rfl;(focus (decide+kernel)))|((with_reducible refine callK_intro (hbs) ?_ ?_ ?_);(focus (((repeat' (first |exact ta_n|refine ta_a ?_));done)));kernel_rfl)|(with_reducible first |refine aw_skip ?_|refine aw_exit ?_)|((with_reducible refine aw_condM ?_ ?_);kernel_rfl)|(with_reducible refine aw_ret ?_) );simp only [↓avP,avQ,avR,forall_const,implies_true,Nat.reduceEqDiff,Nat.reduceAdd,Nat.reduceSub,Nat.reduceLeDiff,Nat.reduceLT,reduceCtorEq,↓hwpC.eq_def,↓hopC.eq_def,↓apKH.eq_def,↓apH.eq_def,rqOk,lkC,delO,takes,whoMakes,headC,tailC,isTC,Option.some.injEq,avS,handS,↓zH_D,ty_H,ty_49,hd2,hlm];try simp (disch:=omega) only [Int.toNat_natCast]))
  refine ⟨Sub.of_eq (congrArg A.one ?_),Sub.refl _⟩
  rw [ins_eq (by unfold foundH;rw [hlb,decide_eq_false (Nat.lt_irrefl _)];rfl),hlb]

theorem rm_sN (r:RoomP) (n:NetP):splice (dV (roomD r)) 1 (dV (netD n))=dV (roomD ⟨r.peers,n⟩):=rfl
theorem q54node_spec (r:RoomP) (n:Int):Spec Tryz.prog 54 [aRoom r,aI n] (.r1 (aB (inR r n))):=by
 refine spec_of T_ok Tryz.func54 (by dsimp only [Tryz.f54]) rfl rfl (by simp) fun w F=>?_
 cases h1:decide (n≥0) with
 |false=>
   repeat' (first |(with_reducible refine aw_seq ?_)|((first |((with_reducible refine aw_regionA T_ok ?_ ?_);kernel_rfl)|(with_reducible refine aw_ret ?_) );simp only [↓avP,avQ,avR,forall_const,implies_true,Nat.reduceEqDiff,Nat.reduceAdd,reduceCtorEq,avS,roomD_B,ty_28,ty_22,h1]))
   exact Sub.of_eq (congrArg aB (by rw [inR,h1];rfl))
 |true=>
   repeat' (first |(with_reducible refine aw_seq ?_)|((first |((with_reducible refine aw_regionA T_ok ?_ ?_);kernel_rfl)|(with_reducible refine aw_ret ?_) );simp only [↓avP,avQ,avR,forall_const,implies_true,Nat.reduceEqDiff,Nat.reduceAdd,reduceCtorEq,avS,roomD_B,ty_28,ty_22,h1]))
   exact Sub.of_eq (congrArg aB (by rw [inR,h1];rfl))
theorem set_row1 {P:List (List Hd)} {i:Nat} (hi:i < P.length) (M:List Hd):((P.map peerD).map dV).set i (.d (.sl 42 (handD default) (M.map handD)) :: List.drop 1 (((P.map peerD).map dV).getD i (dV peer0)))=((P.set i M).map peerD).map dV:=by
 rw [List.getD_eq_getElem?_getD,List.getElem?_map,List.getElem?_map,List.getElem?_eq_getElem hi,List.map_set,List.map_set]
 rfl
theorem q54learn1_spec (r:RoomP) (i:Nat) (h:Hd) (hi:i < r.peers.length) (hn:r.peers.length≤24) (ho:ordH (r.peers.getD i [])) (hf:∀ x∈r.peers.getD i [],fH x) (hh:fH h) (hl:(r.peers.getD i []).length < 4096):
  Spec Tryz.prog 55 [aRoom r,aI i,.agg (handD h)] (.rt [aRoom ⟨setPeer r.peers i h,r.net⟩,aI 0]):=by
 have hs:=q54learn_spec (r.peers.getD i []) h ho hf hh hl
 have hg:=getD_peers r.peers i hi
 have hsp:setPeer r.peers i h=r.peers.set i (learnL (r.peers.getD i []) h):=by rw [setPeer,Int.toNat_natCast]
 rw [hsp]
 generalize hM:learnL (r.peers.getD i []) h=M at *
 refine spec_of T_ok Tryz.func55 (by dsimp only [Tryz.f55]) rfl rfl (by simp) fun w F=>?_
 repeat' (first |(with_reducible first |refine aw_seq ?_|refine aw_stop (id:=6) ?_)|((with_reducible refine two_intro ?_ ?_)<;>intro h<;>first |contradiction|(((revert h;intro _))))|((with_reducible refine And.intro ?_ ?_);(focus (first |omega|rfl|decide)))|((first |((with_reducible refine aw_regionU (id:=4) 1 16 (dV peer0) T_ok ?_ ?_);kernel_rfl;(dsimp only [List.take,List.drop,List.toList_toArray]))|((with_reducible refine aw_regionA T_ok ?_ ?_);kernel_rfl)|((with_reducible refine aw_drawnA T_ok ?_ ?_ ?_ ?_);kernel_rfl;kernel_rfl;(focus (decide+kernel)))|((with_reducible refine callK_intro (hs) ?_ ?_ ?_);(focus (((repeat' (first |exact ta_n|refine ta_a ?_|refine ta_d ?_));done)));kernel_rfl)|(with_reducible refine aw_skip ?_)|((with_reducible refine aw_condM ?_ ?_);kernel_rfl) );simp only [↓avP,avQ,avR,forall_const,implies_true,Nat.reduceEqDiff,Nat.reduceAdd,Nat.reduceLeDiff,Nat.reduceLT,reduceCtorEq,untK.eq_def,untS,untV,avS,roomD_B,handS,ty_H,ty_28,ty_22,ty_56,ty_49,hg];try simp (disch:=omega) only [Int.toNat_natCast]))
 refine ⟨?_⟩
 refine aw_frzD 17 peer0 ((r.peers.set i M).map peerD) rfl (set_row1 hi M) ?_
 simp only [frzS,frzM,frzK,frz1,frz2,frz_dV,List.map_cons,List.map_nil,setB,reduceIte,Nat.reduceEqDiff]
 repeat' (((first |((with_reducible refine aw_regionA T_ok ?_ ?_);kernel_rfl)|(with_reducible refine aw_ret ?_) );simp only [↓avP,avQ,avR,forall_const,implies_true,Nat.reduceEqDiff,Nat.reduceAdd,Nat.reduceLeDiff,reduceCtorEq,avS,ty_28]))
 exact ⟨Sub.of_eq rfl,Sub.refl _⟩
theorem q54send1_spec (r:RoomP) (i k:Int) (h:Hd) (hh:hOk h) (hn:netChk r.net=0) (hp:packetB ⟨i,k,msg h⟩=true) (hq:r.net.queue.length < 4096) (ho:okNet r.net):
  Spec Tryz.prog 56 [aRoom r,aI i,aI k,.agg (handD h)] (.rt [aRoom ⟨r.peers,⟨r.net.queue++[⟨i,k,msg h⟩],r.net.apart⟩⟩,aI 0]):=by
 have hms:=q54message_spec h hh
 have hsnd:=q06Send_spec r.net ⟨i,k,msg h⟩ ho
 obtain ⟨h1,h2⟩:=send_ok hn hp hq
 rw [h1,h2] at hsnd
 rw [netD] at hsnd
 refine spec_of T_ok Tryz.func56 (by dsimp only [Tryz.f56]) rfl rfl (by simp) fun w F=>?_
 repeat' (first |(with_reducible refine aw_seq ?_)|((with_reducible refine two_intro ?_ ?_)<;>intro h<;>first |contradiction|(((revert h;intro _))))|((with_reducible refine And.intro ?_ ?_);(focus (rfl)))|((first |((with_reducible refine aw_regionA T_ok ?_ ?_);kernel_rfl)|((with_reducible refine aw_drawnEA (id:=1) [(12,11)] [] T_ok ?_ ?_ ?_ ?_ ?_);kernel_rfl;kernel_rfl;(focus (decide+kernel));kernel_rfl)|((with_reducible refine callK_intro (hms) ?_ ?_ ?_);(focus (((repeat' (first |exact ta_n|refine ta_a ?_));done)));kernel_rfl)|((with_reducible refine callK_intro (hsnd) ?_ ?_ ?_);(focus (with_unfolding_all rfl));kernel_rfl)|(with_reducible first |refine fin2_intro ?_|refine aw_skip ?_)|((with_reducible refine aw_condM ?_ ?_);kernel_rfl)|(with_reducible refine aw_ret ?_) );simp only [↓avP,avQ,avR,forall_const,implies_true,Nat.reduceEqDiff,Nat.reduceAdd,Nat.reduceLeDiff,reduceCtorEq,↓earlyL.eq_def,avS,↓rm_sN,roomD_B,netD_B,handS,ty_H,ty_28,ty_26,ty_52]))
 exact ⟨Sub.refl _,Sub.refl _⟩

section
variable {P:Program} {B:Base} {T:Tab} {Q:AQ}
theorem gam_ren (ρ:Ren) {s s1:St} {E:Env} {a:Act} (hi:injB ρ=true) (hn:(ρ.all fun p=>decide (p.1 < s1.nx))=true) (hT:wkT ρ s.tm s1.tm) (hB:wkB ρ s.st s1.st) (hG:Gam P B s E a):Gam P B s1 (ren ρ E) a:=by
 refine ⟨⟨hG.1.os,hG.1.tape,hG.1.output,hG.1.size,hG.1.old,hG.1.F0,hG.1.Fc,hG.1.Fm,fun n x hx=>?_,?_,fun n hnx=>?_,hG.1.dp⟩,fun t=>?_,hG.2.defers,hG.2.size⟩
 ·have:=wkB_get hB hx
  unfold wkB1 at this
  split at this<;>try exact this.elim
  ·rename_i m hm
   split at this<;>try exact this.elim
   rename_i b' hb'
   exact subB_ok hm this (hG.1.st m b' hb')
  ·rename_i hm
   split at this<;>try exact this.elim
   subst this
   exact ⟨.slice none 0 0,[],by simp [ren,hm],World.ownsRow_nil _ _ _ _,fun b hb'=>by simp [hb] at hb'⟩
 ·intro n m x y b v u hnm hx hy hv hu hbv hbu
  have h1:=wkB_get hB hx
  have h2:=wkB_get hB hy
  cases e1:lkN ρ n with
  |none=>rw [e1] at h1;exact h1.elim
  |some k1=>
  cases e2:lkN ρ m with
  |none=>rw [e2] at h2;exact h2.elim
  |some k2=>
  cases k1 with
  |none=>simp [ren,e1] at hv;subst hv;simp [hb] at hbv
  |some k1=>
  cases k2 with
  |none=>simp [ren,e2] at hu;subst hu;simp [hb] at hbu
  |some k2=>
  rw [e1] at h1
  rw [e2] at h2
  simp only [wkB1] at h1 h2
  split at h1<;>try exact h1.elim
  split at h2<;>try exact h2.elim
  rename_i b1 hb1 _ b2 hb2
  have hk:k1≠k2:=fun e=>by subst e;exact hnm (injB_ok hi e1 e2)
  have hv':E.η k1=some v:=by simpa [ren,e1] using hv
  have hu':E.η k2=some u:=by simpa [ren,e2] using hu
  exact hG.1.dist k1 k2 b1 b2 b v u hk hb1 hb2 hv' hu' hbv hbu
 ·have hnx':s1.nx≤n:=hnx
  cases e:lkN ρ n with
  |none=>simp [ren,e]
  |some k=>
    have:=List.all_eq_true.1 hn _ (lkN_mem e)
    simp at this
    omega
 ·rcases wkT_get t hT with h|h
  ·rw [h];simp only [RV]
  ·exact subV_ok ρ E _ _ _ h (hG.2.tm t)
theorem callI_own {f:FuncId} {vs:List V} {xs:List A} {el sz:Nat} {d0:List D} {es:List (List D)} {d:Option Tmp} {s:St} {K:St→Prop} (hS:SpecO P f xs el sz d0 es) (ha:toAs vs=some xs)
  (hname:(P.funcs[f]?).any (fun fn=>fn.name != "runtime.NumGoroutine" &&fn.body.isSome)=true) (hd:(match d with|some t=>decide (t < B.N)|none=>true)=true) (hK:K ⟨put d (.mo s.nx) s.tm,(s.nx,.row el sz (dV d0) (es.map dV)) :: s.st,s.nx+1⟩):callI P B f vs d s K ⟨⟩:=by
 have hd:∀ t,d=some t→t < B.N:=fun t e=>by rw [e] at hd;simpa using hd
 refine ⟨hname,fun E a us hG hv=>(hS E.F E.w us hG.1.lt (toAs_ok ha hv)).mono ?_⟩
 rintro e w' ⟨v,xs,rfl,hb1,ho,hr,h1,hl,hmax,hnew⟩
 have hs:HStep E (E.name s.nx v E.F w') s.nx:=hstep_name hb1 FtNew.same
 have hext:=hs.ext hG.1.lt (hG.1.fresh _ (Nat.le_refl _))
 have hσn:lkB s.st s.nx=none:=hG.1.none_of_fresh (Nat.le_refl _)
 have hη:(E.name s.nx v E.F w').η s.nx=some v:=by simp [Env.name]
 obtain ⟨a0,c0,hv0,_⟩:=own_form ho
 have hx:NewB P B E (E.name s.nx v E.F w') s.nx (some (.row el sz (dV d0) (es.map dV))):=by
  refine ⟨v,hη,hnew,v,xs,hη,by rw [List.length_map];exact ho,?_,fun x hx=>?_,h1,by rw [List.length_map];exact hmax,fun b hb'=>?_⟩
  ·rw [dV_flat];exact RVL.of_data (E:=E.name s.nx v E.F w') hr
  ·obtain ⟨y,hy,rfl⟩:=List.mem_map.1 hx
   simpa [dV] using hl y hy
  ·have hge:=hnew b hb'
   refine ⟨.inl (Nat.le_trans hG.1.size hge),?_,fun hm=>?_,fun o ho'=>?_⟩
   ·exact (ho.lt b ((ownBlock_hb hv0).trans hb')).2
   ·have:=(hG.1.Fm b hm).2;omega
   ·have:=(hG.1.Fc b o ho').2;omega
 refine ⟨v,E.name s.nx v E.F w',_,rfl,rfl,⟨hG.1.head (σ':=lkB ((s.nx,.row el sz (dV d0) (es.map dV)) :: s.st)) (fr':=fun n=>s.nx+1≤n) hs hx (Nat.le_refl _) (fun n=>rfl) hσn (fun n hn'=>⟨by omega,fun _=>by omega⟩),(hG.2.ext hext rfl).put ?_ hd⟩,hK⟩
 simp only [RV]
 exact ⟨hη,a0,_,c0,hv0⟩
theorem callI_wkS (ρ:Ren) {f:FuncId} {vs vs':List V} {d:Option Tmp} {s s1:St} {K:St→Prop} (hi:injB ρ=true) (hn:(ρ.all fun p=>decide (p.1 < s1.nx))=true) (hT:wkT ρ s.tm s1.tm) (hB:wkB ρ s.st s1.st) (hv:subVs ρ vs vs') (h:callI P B f vs' d s1 K ⟨⟩):callI P B f vs d s K ⟨⟩:=
 ⟨h.1,fun E a us hG hu=>h.2 (ren ρ E) a us (gam_ren ρ hi hn hT hB hG) (subVs_ok ρ E _ _ _ hv hu)⟩
theorem callP_wkS (ρ:Ren) {f:FuncId} {vs vs':List V} {ch:List PanicEntry} {s s1:St} {K:St→Prop} (hi:injB ρ=true) (hn:(ρ.all fun p=>decide (p.1 < s1.nx))=true) (hT:wkT ρ s.tm s1.tm) (hB:wkB ρ s.st s1.st) (hv:subVs ρ vs vs') (h:callP P B f vs' ch s1 K ⟨⟩):callP P B f vs ch s K ⟨⟩:=
 ⟨h.1,fun E a us hG hu=>h.2 (ren ρ E) a us (gam_ren ρ hi hn hT hB hG) (subVs_ok ρ E _ _ _ hv hu)⟩
theorem awd_condM {s:St} {c:Operand} {x y:Code} (hco:constOk B.N c=true) (h:match ev (lkT s.tm) c with| .d (.c (.bool b))=>Two b (AWD P B x Q ⟨⟩ s) (AWD P B y Q ⟨⟩ s)|_=>False):AWD P B (.cond c x y) Q ⟨⟩ s:=by
 split at h<;>try exact h.elim
 rename_i b hc
 exact awd_cond hc hco h.1 h.2
end

section
variable {P:Program} {B:Base} {Q:AQ} {s:St}
end

section
variable {P:Program} {B:Base} {T:Tab}
theorem aw_drawnV (iw n:Nat) (late:List Nat) {id:Nat} {ops:Array Oper} {s:St} {Q:AQ} (hT:TabOk P T) (hm:P.follows .mixedOrders=true) (hl:(ops.toList.all (opOk B.N))=true) (hok:(drawOkS ops.toList (iw :: headIdx 0 ops.toList) ((tailIdx 0 ops.toList).filter (fun i=>i != iw)) iw&&lateOk ops.toList iw (headOps 0 ops.toList)&&(lateL ops.toList iw (headOps 0 ops.toList)).all (fun p=>late.contains p.1))=true)
  (hh:(iw :: headIdx 0 ops.toList).filter (fun i=>i != iw)=headIdx 0 ops.toList)
  (h:hwp P T ops s.st s.nx (headOps 0 ops.toList) s.tm [] (fin2 (fun tm nb=>earlyK T ops.toList[iw]? n tm s.st (fun st1=>lateK P T ops tm st1 nb s.nx (pickOps ops.toList late) (rwp P B T ops (tailX iw 0 ops.toList) ⟨tm,nb++st1,s.nx+ops.toList.length⟩ (Q .normal)))) ⟨⟩)):AW P B (.region id ops true) Q ⟨⟩ s:=fun E a hG=>by
 obtain ⟨l,rfl⟩:∃ l:List Oper,ops=l.toArray:=⟨ops.toList,by simp⟩
 simp only [List.toList_toArray,Bool.and_eq_true] at hl hok hh h
 obtain ⟨⟨hok,hlo⟩,hla⟩:=hok
 have hops0:∀ o∈l.toArray.toList,opOk B.N o=true:=fun o ho=>List.all_eq_true.1 hl o (by simpa using ho)
 have e1:=headOps_eq l []
 have e2:=tailX_eq iw l []
 simp only [List.nil_append,List.length_nil] at e1 e2
 have hc:((headOps 0 l).all fun p=>p.2.op.operands.toList.all (constOk B.N))=true:=List.all_eq_true.2 fun p hp=>by
  rw [← e1] at hp
  have:=List.all_eq_true.1 hl p.2 (List.mem_of_getElem? (pickOps_mem.1 hp).2)
  simp only [opOk,Bool.and_eq_true] at this
  exact this.1
 obtain ⟨tmF,nbF,hK,hrun⟩:=hwp_ok (B:=B) hT hops0 _ _ _ hc h
 have hG':=gam_drew hG
 have hst0:∀ n,s.nx≤n→lkB s.st n=none:=fun n hn=>hG.1.none_of_fresh hn
 unfold fin2 at hK
 obtain ⟨st1,hK2,hst1,_,hwr⟩:=early_ok (B:=B) hT hl hst0 hK
 obtain ⟨hK1,hlt⟩:=lateK_ok (B:=B) hT hops0 _ (List.all_eq_true.2 fun p hp=>by
  have:=List.all_eq_true.1 hl p.2 (List.mem_of_getElem? (pickOps_mem.1 hp).2)
  simp only [opOk,Bool.and_eq_true] at this
  exact this.1) hK2
 refine wpIn_region_any hm ?_
 have htail:((pickOps l ((tailIdx 0 l).filter (fun i=>i != iw))).map (·.2)).all (opOk B.N)=true:=List.all_eq_true.2 fun o ho=>by
  obtain ⟨p,hp,rfl⟩:=List.mem_map.1 ho
  exact List.all_eq_true.1 hl p.2 (List.mem_of_getElem? (pickOps_mem.1 hp).2)
 rw [← e1,← hh] at hrun
 have hlate:∀ p∈pickOps l ((iw :: headIdx 0 l).filter (fun i=>i != iw)),reachB .any l.toArray l.length iw p.1=true∨(((p.2.looksAt l.toArray).all fun t=>(pickOps l ((iw :: headIdx 0 l).filter (fun i=>i != iw))).all fun q=>q.2.dst != some t||reachB .any l.toArray l.length p.1 q.1)=true∧∃ v x,(∀ t,p.2.dst=some t→lkT tmF t=v)∧lkB nbF (s.nx+p.1)=x∧HF P B l.toArray p.2 (lkT tmF) (lkB st1) (s.nx+p.1) v x):=fun p hp=>by
  rw [hh,e1] at hp
  by_cases hr:reachB .any l.toArray l.length iw p.1=true
  ·exact .inl hr
  ·have hpl:p∈lateL l iw (headOps 0 l):=List.mem_filter.2 ⟨hp,by simpa using hr⟩
   have hin:p∈pickOps l late:=by
    have h1:=List.all_eq_true.1 hla p hpl
    rw [← e1] at hp
    exact pickOps_mem.2 ⟨by simpa using h1,(pickOps_mem.1 hp).2⟩
   refine .inr ⟨?_,hlt p hin⟩
   rw [hh,e1]
   exact List.all_eq_true.1 hlo p hpl
 have:=wpAny_headsL (Q:=AQQ P B Q) hok hrun hlate hl hst0 hst1 (fun _ _ hb=>hb) hwr (fun E a hG=>rwp_list hT hops0 _ _ _ htail (by rw [e2];exact hK1) (fun s' hs E a hG=>⟨E,s',rfl,hG,hs⟩) E a hG) (iw :: headIdx 0 l).length (Array.replicate l.toArray.size false) ⟨E.η,E.F,{ E.w with drawn:=E.w.drawn+1 },E.dp⟩ a
  ⟨by simp,fun j oj _ hl=>(by rw [getD_replicate_false] at hl;cases hl)⟩ (fun t _=>getD_replicate_false _ _) (by
   rw [List.countP_eq_length];intro i _;rw [getD_replicate_false];rfl)
  (hG'.1.congr (fun n=>by
   rw [getD_replicate_false,getD_replicate_false]
   by_cases hn:s.nx≤n
   ·rw [if_pos hn,if_neg (by simp),hst0 n hn]
   ·rw [if_neg hn,if_neg (by simp)]) (fun n hn=>hn.1))
  ⟨fun t=>by
   have:((pickOps l ((iw :: headIdx 0 l).filter (fun i=>i != iw))).any fun p=>p.2.dst==some t&&(Array.replicate l.toArray.size false).getD p.1 false)=false:=by
    rw [List.any_eq_false];intro p _;rw [getD_replicate_false];simp
   rw [this,if_neg (by simp)]
   exact hG'.2.tm t,hG'.2.defers,hG'.2.size⟩
 have hlen:(iw :: headIdx 0 l).length+((tailIdx 0 l).filter (fun i=>i != iw)).length=l.length:=by
  simp only [drawOkS,Bool.and_eq_true,decide_eq_true_eq] at hok
  exact hok.1.1.2
 rw [hlen] at this
 simpa using this
end

theorem do_act {r:RoomP} {a:ActP} (hc:roomChk r=0):doE r a=actE r a:=by unfold doE;rw [if_neg (by simp [hc])]
theorem room_ok {r:RoomP} (ho:okRoom r) (hc:roomChk r=0):∀ l∈r.peers,ordH l∧∀ x∈l,fH x:=fun l hl=>by
 have hk:=(netChk_of hc).2.2.1 l hl
 refine ⟨ord_known hk,fun x hx=>⟨?_,(ho.2.1 l hl).2 x hx⟩⟩
 unfold knownB at hk
 rw [Bool.and_eq_true] at hk
 obtain ⟨i,hi,rfl⟩:=List.getElem_of_mem hx
 have:=List.all_eq_true.1 hk.1 i (by simpa using hi)
 unfold knownAt at this
 rw [Bool.and_eq_true,getD_atH hi] at this
 exact this.1
theorem q54tell_spec (r:RoomP) (a:ActP) (ho:okRoom r) (hc:roomChk r=0) (hf:fewR r) (ha:hOk a.hand) (hk:a.kind=1):Spec Tryz.prog 24 [aRoom r,.agg (actD a)] (.rt [aRoom (doR r a),aI (doE r a)]):=by
 have hdo:=do_act (a:=a) hc
 rw [actE,if_pos hk] at hdo
 have hnd:=q54node_spec r a.peer
 cases h1:inR r a.peer with
 |false=>
   rw [h1] at hnd
   rw [h1,if_pos rfl] at hdo
   refine spec_of T_ok Tryz.func24 (by dsimp only [Tryz.f24]) rfl rfl (by simp) fun w F=>?_
   repeat' (first |(with_reducible first |refine aw_seq ?_|refine two_t ?_)|((with_reducible refine And.intro ?_ ?_);(focus (rfl)))|((first |((with_reducible refine aw_regionA T_ok ?_ ?_);kernel_rfl)|((with_reducible refine callI_spec (hnd) ?_ ?_ ?_ ?_);(focus (with_unfolding_all rfl));kernel_rfl;kernel_rfl)|((with_reducible refine aw_condM ?_ ?_);kernel_rfl)|(with_reducible refine aw_ret ?_) );simp only [↓avP,avQ,avR,forall_const,implies_true,Nat.reduceEqDiff,Nat.reduceAdd,Nat.reduceLeDiff,reduceCtorEq,avS,roomD_B,actS,ty_A,ty_3,ty_28]))
   rw [doR,hdo,if_neg (by decide)]
   exact ⟨sub_room0,Sub.refl _⟩
 |true=>
 rw [h1] at hnd
 rw [h1,if_neg (by simp)] at hdo
 have hfs:=q48formed_spec a.hand
 cases h2:formB a.hand with
 |false=>
   rw [h2] at hfs
   rw [h2,if_pos rfl] at hdo
   refine spec_of T_ok Tryz.func24 (by dsimp only [Tryz.f24]) rfl rfl (by simp) fun w F=>?_
   repeat' (first |(with_reducible first |refine aw_seq ?_|refine two_t ?_|refine two_f ?_)|((with_reducible refine And.intro ?_ ?_);(focus (rfl)))|((first |((with_reducible refine aw_regionA T_ok ?_ ?_);kernel_rfl)|((with_reducible refine callI_spec (hnd) ?_ ?_ ?_ ?_);(focus (with_unfolding_all rfl));kernel_rfl;kernel_rfl)|((with_reducible refine callI_spec (hfs) ?_ ?_ ?_ ?_);(focus (((repeat' (first |exact ta_n|refine ta_a ?_));done)));kernel_rfl;kernel_rfl)|(with_reducible refine aw_skip ?_)|((with_reducible refine aw_condM ?_ ?_);kernel_rfl)|(with_reducible refine aw_ret ?_) );simp only [↓avP,avQ,avR,forall_const,implies_true,Nat.reduceEqDiff,Nat.reduceAdd,Nat.reduceLeDiff,reduceCtorEq,avS,roomD_B,actS,ty_A,handS,ty_H,ty_3,ty_28]))
   rw [doR,hdo,if_neg (by decide)]
   exact ⟨sub_room0,Sub.refl _⟩
 |true=>
 rw [h2] at hfs
 rw [h2,if_neg (by simp)] at hdo
 obtain ⟨hn,h24,_,_⟩:=netChk_of hc
 unfold inR at h1
 rw [Bool.and_eq_true] at h1
 have g0:=of_decide_eq_true h1.1
 have g1:=of_decide_eq_true h1.2
 obtain ⟨i,hi⟩:∃ i:Nat,a.peer=i:=⟨a.peer.toNat,by omega⟩
 have hil:i < r.peers.length:=by omega
 have hm:r.peers.getD i []∈r.peers:=mem_getD hil
 have hle:=q54learn1_spec r i a.hand hil h24 (room_ok ho hc _ hm).1 (room_ok ho hc _ hm).2 ⟨h2,ha⟩ (by have:=hf.2 _ hm;omega)
 rw [← hi] at hle
 have hnet:=tell_net (i:=i) (m:=r.peers.length) a.hand hn hf.1 h24 hil
 rw [← hi] at hnet
 have hR:doR r a=⟨setPeer r.peers a.peer a.hand,⟨r.net.queue++tellPk r.peers.length a.peer a.hand,r.net.apart⟩⟩:=by rw [doR,if_pos hdo,actR,if_pos hk]
 rw [hdo,hR]
 have hqf:=hf.1
 generalize setPeer r.peers a.peer a.hand=P at *
 refine spec_of T_ok Tryz.func24 (by dsimp only [Tryz.f24]) rfl rfl (by simp) fun w F=>?_
 repeat' (first |(with_reducible first |refine aw_seq ?_|refine two_f ?_)|((with_reducible refine And.intro ?_ ?_);(focus (rfl)))|(with_reducible refine aw_block ?_)|((first |((with_reducible refine aw_regionA T_ok ?_ ?_);kernel_rfl)|((with_reducible refine callI_spec (hnd) ?_ ?_ ?_ ?_);(focus (with_unfolding_all rfl));kernel_rfl;kernel_rfl)|((with_reducible refine callI_spec (hfs) ?_ ?_ ?_ ?_);(focus (((repeat' (first |exact ta_n|refine ta_a ?_));done)));kernel_rfl;kernel_rfl)|((with_reducible refine callI_spec (hle) ?_ ?_ ?_ ?_);(focus (((repeat' (first |exact ta_n|refine ta_a ?_|refine ta_d ?_));done)));kernel_rfl;kernel_rfl)|(with_reducible refine aw_skip ?_)|((with_reducible refine aw_condM ?_ ?_);kernel_rfl) );simp only [↓avP,avQ,avR,forall_const,implies_true,Nat.reduceEqDiff,Nat.reduceAdd,Nat.reduceLeDiff,reduceCtorEq,avS,roomD_B,actS,ty_A,handS,ty_H,ty_3,ty_28]))
 refine aw_loopI (fun k:Nat=>⟨[(2,.ptr 0 0),(3,.ptr 1 0),(4,.ptr 2 0),(5,vI 0),(6,.ptr 3 0),(7,vI 0),(8,vI k)],[(3,.cells 28 (dV (roomD ⟨P,⟨r.net.queue++tellPk k a.peer a.hand,r.net.apart⟩⟩))),(2,.cells 28 [.d (.c (.slice none 0 0)),.d (.c (.slice none 0 0)),.d (.c (.slice none 0 0))]),(1,.cells 38 (dV (actD a))),(0,.cells 28 (dV (roomD r)))],4⟩) (fun k=>k≤r.peers.length) (fun k=>r.peers.length - k) 0 (Nat.zero_le _) (wk_of [(0,some 0),(1,some 1),(2,some 2),(3,some 3)] rfl rfl ?_ ?_) ?_
 ·simp only [wkA,reduceIte,Nat.reduceEqDiff]
  (repeat' (first |exact trivial|rfl|exact subVs_d _ _|exact subD_refl _|refine And.intro ?_ ?_))
 ·simp only [wkA,reduceIte,Nat.reduceEqDiff]
  simp only [tellPk,List.range_zero,List.filter_nil,List.map_nil,List.append_nil]
  (repeat' (first |exact trivial|rfl|exact subVs_d _ _|exact subD_refl _|refine And.intro ?_ ?_))
 intro k hkl
 rcases Nat.lt_or_ge k r.peers.length with hlt|hge
 ·have hd2:=ltd hlt
  by_cases hki:(k:Int)=a.peer
  ·have hki':((k:Int) != a.peer)=false:=by simpa using hki
   have hts:tellPk (k+1) a.peer a.hand=tellPk k a.peer a.hand:=by rw [tellPk_succ,if_neg (by omega),List.append_nil]
   repeat' (first |(with_reducible first |refine aw_seq ?_|refine two_t ?_|refine two_f ?_|refine aw_block ?_)|((first |((with_reducible refine aw_regionA T_ok ?_ ?_);kernel_rfl)|(with_reducible refine aw_skip ?_)|((with_reducible refine aw_condM ?_ ?_);kernel_rfl) );simp only [↓avP,avQ,avR,forall_const,implies_true,Nat.reduceEqDiff,reduceCtorEq,roomD_B,actS,ty_A,ty_3,ty_28,ty_22,hd2,hki'];try simp (disch:=omega) only [av_w]))
   refine ⟨k+1,by omega,by dsimp only;omega,wk_of [(0,some 0),(1,some 1),(2,some 2),(3,some 3)] rfl rfl ?_ ?_⟩
   ·simp only [wkA,reduceIte,Nat.reduceEqDiff]
    (repeat' (first |exact trivial|rfl|exact subVs_d _ _|exact subD_refl _|refine And.intro ?_ ?_))
   ·simp only [wkA,reduceIte,Nat.reduceEqDiff,hts]
    (repeat' (first |exact trivial|rfl|exact subVs_d _ _|exact subD_refl _|refine And.intro ?_ ?_))
  ·have hki':((k:Int) != a.peer)=true:=by simpa using hki
   have hts:tellPk (k+1) a.peer a.hand=tellPk k a.peer a.hand++[⟨a.peer,k,msg a.hand⟩]:=by rw [tellPk_succ,if_pos hki]
   obtain ⟨hnk,hqk⟩:=hnet k (by omega)
   have hsnd:=q54send1_spec ⟨P,⟨r.net.queue++tellPk k a.peer a.hand,r.net.apart⟩⟩ a.peer k a.hand ha hnk (packetB_of h24 (by omega) (by omega) (by omega) (by omega) (by omega) (by have:=msg_len a.hand;omega)) (by simp only [List.length_append];omega) ⟨by simp only [List.length_append];omega,ho.2.2.1.2⟩
   repeat' (first |(with_reducible first |refine aw_seq ?_|refine two_t ?_|refine aw_block ?_)|((first |((with_reducible refine aw_regionA T_ok ?_ ?_);kernel_rfl)|((with_reducible refine callI_spec (hsnd) ?_ ?_ ?_ ?_);(focus (((repeat' (first |exact ta_n|refine ta_a ?_|refine ta_d ?_));done)));kernel_rfl;kernel_rfl)|(with_reducible refine aw_skip ?_)|((with_reducible refine aw_condM ?_ ?_);kernel_rfl) );simp only [↓avP,avQ,avR,forall_const,implies_true,Nat.reduceEqDiff,Nat.reduceLeDiff,reduceCtorEq,roomD_B,actS,ty_A,handS,ty_H,ty_3,ty_28,ty_22,hd2,hki'];try simp (disch:=omega) only [av_w]))
   refine ⟨k+1,by omega,by dsimp only;omega,wk_of [(0,some 0),(1,some 1),(2,some 2),(3,some 3)] rfl rfl ?_ ?_⟩
   ·simp only [wkA,reduceIte,Nat.reduceEqDiff]
    (repeat' (first |exact trivial|rfl|exact subVs_d _ _|exact subD_refl _|refine And.intro ?_ ?_))
   ·simp only [wkA,reduceIte,Nat.reduceEqDiff,hts,← List.append_assoc]
    (repeat' (first |exact trivial|rfl|exact subVs_d _ _|exact subD_refl _|refine And.intro ?_ ?_))
 ·obtain rfl:k=r.peers.length:=by omega
  have hd2:=ged (Nat.le_refl r.peers.length)
  repeat' (first |(with_reducible first |refine aw_seq ?_|refine two_f ?_)|((first |((with_reducible refine aw_regionA T_ok ?_ ?_);kernel_rfl)|(with_reducible refine aw_exit ?_)|((with_reducible refine aw_condM ?_ ?_);kernel_rfl)|(with_reducible refine aw_ret ?_) );simp only [↓avP,avQ,avR,forall_const,implies_true,Nat.reduceEqDiff,Nat.reduceAdd,Nat.reduceLeDiff,reduceCtorEq,avS,roomD_B,ty_28,ty_22,ty_49,hd2]))
  exact ⟨Sub.refl _,Sub.refl _⟩
theorem q54sync_spec (r:RoomP) (a:ActP) (ho:okRoom r) (hc:roomChk r=0) (hf:fewR r) (hk:a.kind=2):Spec Tryz.prog 25 [aRoom r,.agg (actD a)] (.rt [aRoom (doR r a),aI (doE r a)]):=by
 have hdo:=do_act (a:=a) hc
 rw [actE,if_neg (by omega),if_pos hk] at hdo
 have hnd:=q54node_spec r a.peer
 have hnd2:=q54node_spec r a.to_
 cases h1:inR r a.peer with
 |false=>
   rw [h1] at hnd
   rw [if_pos (.inl h1)] at hdo
   refine spec_of T_ok Tryz.func25 (by dsimp only [Tryz.f25]) rfl rfl (by simp) fun w F=>?_
   repeat' (first |(with_reducible first |refine aw_seq ?_|refine two_t ?_)|((with_reducible refine And.intro ?_ ?_);(focus (rfl)))|((first |((with_reducible refine aw_regionA T_ok ?_ ?_);kernel_rfl)|((with_reducible refine callI_spec (hnd) ?_ ?_ ?_ ?_);(focus (with_unfolding_all rfl));kernel_rfl;kernel_rfl)|((with_reducible refine callK_skip (.r1 (aB false)) (by with_unfolding_all rfl) ?_ ?_);kernel_rfl)|((with_reducible refine aw_condM ?_ ?_);kernel_rfl)|(with_reducible refine aw_ret ?_) );simp only [↓avP,avQ,avR,forall_const,implies_true,Nat.reduceEqDiff,Nat.reduceAdd,Nat.reduceLeDiff,reduceCtorEq,avS,roomD_B,actS,ty_A,ty_3,ty_28]))
   rw [doR,hdo,if_neg (by decide)]
   exact ⟨sub_room0,Sub.refl _⟩
 |true=>
 rw [h1] at hnd
 cases h2:inR r a.to_ with
 |false=>
   rw [h2] at hnd2
   rw [if_pos (.inr (.inl h2))] at hdo
   refine spec_of T_ok Tryz.func25 (by dsimp only [Tryz.f25]) rfl rfl (by simp) fun w F=>?_
   repeat' (first |(with_reducible first |refine aw_seq ?_|refine two_t ?_)|((with_reducible refine And.intro ?_ ?_);(focus (rfl)))|((first |((with_reducible refine aw_regionA T_ok ?_ ?_);kernel_rfl)|((with_reducible refine callI_spec (hnd) ?_ ?_ ?_ ?_);(focus (with_unfolding_all rfl));kernel_rfl;kernel_rfl)|((with_reducible refine callK_intro (hnd2) ?_ ?_ ?_);(focus (with_unfolding_all rfl));kernel_rfl)|((with_reducible refine aw_condM ?_ ?_);kernel_rfl)|(with_reducible refine aw_ret ?_) );simp only [↓avP,avQ,avR,forall_const,implies_true,Nat.reduceEqDiff,Nat.reduceAdd,Nat.reduceLeDiff,reduceCtorEq,avS,roomD_B,actS,ty_A,ty_3,ty_28]))
   rw [doR,hdo,if_neg (by decide)]
   exact ⟨sub_room0,Sub.refl _⟩
 |true=>
 rw [h2] at hnd2
 cases h3:(a.peer==a.to_) with
 |true=>
   rw [if_pos (.inr (.inr (beq_iff_eq.1 h3)))] at hdo
   refine spec_of T_ok Tryz.func25 (by dsimp only [Tryz.f25]) rfl rfl (by simp) fun w F=>?_
   repeat' (first |(with_reducible first |refine aw_seq ?_|refine two_t ?_)|((with_reducible refine And.intro ?_ ?_);(focus (rfl)))|((first |((with_reducible refine aw_regionA T_ok ?_ ?_);kernel_rfl)|((with_reducible refine callI_spec (hnd) ?_ ?_ ?_ ?_);(focus (with_unfolding_all rfl));kernel_rfl;kernel_rfl)|((with_reducible refine callK_intro (hnd2) ?_ ?_ ?_);(focus (with_unfolding_all rfl));kernel_rfl)|((with_reducible refine aw_condM ?_ ?_);kernel_rfl)|(with_reducible refine aw_ret ?_) );simp only [↓avP,avQ,avR,forall_const,implies_true,Nat.reduceEqDiff,Nat.reduceAdd,Nat.reduceLeDiff,reduceCtorEq,avS,roomD_B,actS,ty_A,ty_3,ty_28,h3]))
   rw [doR,hdo,if_neg (by decide)]
   exact ⟨sub_room0,Sub.refl _⟩
 |false=>
 have hne:a.peer≠a.to_:=beq_eq_false_iff_ne.1 h3
 rw [if_neg (by simp [h1,h2,hne])] at hdo
 obtain ⟨hn,h24,_,_⟩:=netChk_of hc
 unfold inR at h1 h2
 rw [Bool.and_eq_true] at h1 h2
 have g0:=of_decide_eq_true h1.1
 have g1:=of_decide_eq_true h1.2
 have g2:=of_decide_eq_true h2.1
 have g3:=of_decide_eq_true h2.2
 obtain ⟨i,hi⟩:∃ i:Nat,a.peer=i:=⟨a.peer.toNat,by omega⟩
 have hil:i < r.peers.length:=by omega
 have hm:r.peers.getD i []∈r.peers:=mem_getD hil
 have hpf:=(room_ok ho hc _ hm).2
 have hti:a.peer.toNat=i:=by omega
 have hpl:=hf.2 _ hm
 have hqf:=hf.1
 have hg:=getD_peers r.peers i hil
 have hR:doR r a=⟨r.peers,⟨r.net.queue++syncPk (r.peers.getD i []) a.peer a.to_,r.net.apart⟩⟩:=by rw [doR,if_pos hdo,actR,if_neg (by omega),if_pos hk,hi,Int.toNat_natCast]
 rw [hdo,hR]
 generalize hP:r.peers.getD i []=P at *
 have hnet:=sync_net (m:=r.peers.length) hn h24 g0 g1 g2 g3 hne P (by omega)
 refine spec_of T_ok Tryz.func25 (by dsimp only [Tryz.f25]) rfl rfl (by simp) fun w F=>?_
 repeat' (first |(with_reducible first |refine aw_seq ?_|refine two_f ?_)|((with_reducible refine And.intro ?_ ?_);(focus (first |omega|rfl)))|(with_reducible refine aw_block ?_)|((first |((with_reducible refine aw_regionA T_ok ?_ ?_);kernel_rfl)|((with_reducible refine callI_spec (hnd) ?_ ?_ ?_ ?_);(focus (with_unfolding_all rfl));kernel_rfl;kernel_rfl)|((with_reducible refine callK_intro (hnd2) ?_ ?_ ?_);(focus (with_unfolding_all rfl));kernel_rfl)|(with_reducible refine aw_skip ?_)|((with_reducible refine aw_condM ?_ ?_);kernel_rfl) );simp only [↓avP,avQ,avR,forall_const,implies_true,Nat.reduceEqDiff,Nat.reduceAdd,Nat.reduceLeDiff,reduceCtorEq,avS,roomD_B,actS,ty_A,ty_3,ty_28,ty_22,ty_56,ty_49,h3,hti,hg]))
 refine aw_loopI (fun k:Nat=>⟨[(2,.ptr 0 0),(3,.ptr 1 0),(4,.ptr 2 0),(5,vI 0),(6,.ptr 3 0),(7,vI 0),(8,.d (handsD P)),(9,vI k)],[(3,.cells 28 (dV (roomD ⟨r.peers,⟨r.net.queue++syncPk (P.take k) a.peer a.to_,r.net.apart⟩⟩))),(2,.cells 28 [.d (.c (.slice none 0 0)),.d (.c (.slice none 0 0)),.d (.c (.slice none 0 0))]),(1,.cells 38 (dV (actD a))),(0,.cells 28 (dV (roomD r)))],4⟩) (fun k=>k≤P.length) (fun k=>P.length - k) 0 (Nat.zero_le _) (wk_of [(0,some 0),(1,some 1),(2,some 2),(3,some 3)] rfl rfl ?_ ?_) ?_
 ·simp only [wkA,reduceIte,Nat.reduceEqDiff]
  (repeat' (first |exact trivial|rfl|exact subVs_d _ _|exact subD_refl _|refine And.intro ?_ ?_))
 ·simp only [wkA,reduceIte,Nat.reduceEqDiff]
  simp only [syncPk,List.take_zero,List.map_nil,List.append_nil]
  (repeat' (first |exact trivial|rfl|exact subVs_d _ _|exact subD_refl _|refine And.intro ?_ ?_))
 intro k hkl
 rcases Nat.lt_or_ge k P.length with hlt|hge
 ·have hd2:=ltd hlt
  have hkm:P.getD k default∈P:=mem_getD hlt
  have hts:syncPk (P.take (k+1)) a.peer a.to_=syncPk (P.take k) a.peer a.to_++[⟨a.peer,a.to_,msg (P.getD k default)⟩]:=by
   rw [List.take_succ_eq_append_getElem hlt]
   unfold syncPk
   rw [List.map_append,getD_atH hlt]
   rfl
  have hnk:=hnet k (by omega)
  have hlk:(syncPk (P.take k) a.peer a.to_).length≤k:=by unfold syncPk;rw [List.length_map,List.length_take];omega
  have hgk:=getD_hands P k
  have hsnd:=q54send1_spec ⟨r.peers,⟨r.net.queue++syncPk (P.take k) a.peer a.to_,r.net.apart⟩⟩ a.peer a.to_ (P.getD k default) (hpf _ hkm).2 hnk (packetB_of h24 g0 g1 g2 g3 hne (by have:=msg_len (P.getD k default);omega)) (by simp only [List.length_append];omega) ⟨by simp only [List.length_append];omega,ho.2.2.1.2⟩
  repeat' (first |(with_reducible first |refine aw_seq ?_|refine two_t ?_)|((with_reducible refine And.intro ?_ ?_);(focus (omega)))|(with_reducible refine aw_block ?_)|((first |((with_reducible refine aw_regionA T_ok ?_ ?_);kernel_rfl)|((with_reducible refine aw_drawnV (id:=9) 13 3 [12,14] T_ok ?_ ?_ ?_ ?_ ?_);kernel_rfl;kernel_rfl;(focus (decide+kernel));kernel_rfl)|((with_reducible refine callK_intro (hsnd) ?_ ?_ ?_);(focus (((repeat' (first |exact ta_n|refine ta_a ?_|refine ta_d ?_));done)));kernel_rfl)|(with_reducible first |refine fin2_intro ?_|refine aw_skip ?_)|((with_reducible refine aw_condM ?_ ?_);kernel_rfl) );simp only [↓avP,avQ,avR,forall_const,implies_true,Nat.reduceEqDiff,Nat.reduceAdd,Nat.reduceLeDiff,reduceCtorEq,↓earlyK.eq_def,lateK.eq_def,tailX,Nat.reduceBEq,roomD_B,actS,ty_A,handS,ty_H,ty_3,ty_28,ty_49,hd2,hgk];try simp (disch:=omega) only [av_w,Int.toNat_natCast]))
  refine ⟨k+1,by omega,by dsimp only;omega,wk_of [(0,some 0),(1,some 1),(2,some 2),(3,some 3)] rfl rfl ?_ ?_⟩
  ·simp only [wkA,reduceIte,Nat.reduceEqDiff]
   (repeat' (first |exact trivial|rfl|exact subVs_d _ _|exact subD_refl _|refine And.intro ?_ ?_))
  ·simp only [wkA,reduceIte,Nat.reduceEqDiff,hts,← List.append_assoc]
   (repeat' (first |exact trivial|rfl|exact subVs_d _ _|exact subD_refl _|refine And.intro ?_ ?_))
 ·obtain rfl:k=P.length:=by omega
  have hd2:=ged (Nat.le_refl P.length)
  repeat' (first |(with_reducible first |refine aw_seq ?_|refine two_f ?_)|((first |((with_reducible refine aw_regionA T_ok ?_ ?_);kernel_rfl)|(with_reducible refine aw_exit ?_)|((with_reducible refine aw_condM ?_ ?_);kernel_rfl)|(with_reducible refine aw_ret ?_) );simp only [↓avP,avQ,avR,forall_const,implies_true,Nat.reduceEqDiff,Nat.reduceAdd,Nat.reduceLeDiff,reduceCtorEq,avS,roomD_B,ty_28,ty_22,ty_49,hd2]))
  rw [List.take_length]
  exact ⟨Sub.refl _,Sub.refl _⟩
end Go.Proofs.YthidfoohhhkobaaGreat

namespace Go.Proofs.YthidfoohhhkobaaGreat.Cd
set_option linter.unusedSimpArgs false
set_option linter.unusedVariables false
open Go.RowKit
attribute [local go_sem ↓] Go.wp_at_zero Go.wp_at_succ
def RRa (w:World) (R:Nat) (a:Option Addr) (cap:Nat) (bs:List UInt8) (at_:Nat) (bad:Bool):Prop:=
 w.heap[R]? =some (.cells #[.slice a bs.length cap,.int .i64 at_,.bool bad] 137 (0,0))∧bs.length≤cap∧bs.length≤1000000∧Bytes w a bs∧(bs=[]∨∀ ad,a=some ad→ad.block < R)∧at_≤bs.length
def RR (w:World) (R:Nat) (bs:List UInt8) (at_:Nat) (bad:Bool):Prop:=∃ a cap,RRa w R a cap bs at_ bad
theorem RRa.cells {w:World} {R:Nat} {a:Option Addr} {cap:Nat} {bs:List UInt8} {at_:Nat} {bad:Bool} (h:RRa w R a cap bs at_ bad):
  w.cell? ⟨R,0,none⟩=some (.slice a bs.length cap)∧w.cell? ⟨R,1,none⟩=some (.int .i64 at_)∧w.cell? ⟨R,2,none⟩=some (.bool bad)∧w.frozen? ⟨R,1,none⟩=false∧w.frozen? ⟨R,2,none⟩=false:=by
 obtain ⟨h,_⟩:=h
 simp [World.cell?,World.frozen?,h]
theorem RRa.lt {w:World} {R:Nat} {a:Option Addr} {cap:Nat} {bs:List UInt8} {at_:Nat} {bad:Bool} (h:RRa w R a cap bs at_ bad):R < w.heap.size:=(Array.getElem?_eq_some_iff.1 h.1).1
theorem RR.lt {w:World} {R:Nat} {bs:List UInt8} {at_:Nat} {bad:Bool} (h:RR w R bs at_ bad):R < w.heap.size:=by
 obtain ⟨a,cap,h⟩:=h;exact h.lt
theorem RR.keep {w w':World} {R:Nat} {bs:List UInt8} {at_:Nat} {bad:Bool} (h:RR w R bs at_ bad) (hk:∀ b,b≤R→w'.heap[b]? =w.heap[b]?):RR w' R bs at_ bad:=by
 obtain ⟨a,cap,hB,hl,hcap,hby,hlt,hat⟩:=h
 refine ⟨a,cap,(hk R (Nat.le_refl _)).trans hB,hl,hcap,?_,hlt,hat⟩
 rcases hlt with h|hlt
 ·exact .inl h
 rcases hby with h|⟨b,off,rfl,hc⟩
 ·exact .inl h
 ·have hb:b < R:=hlt _ rfl
  exact .inr ⟨b,off,rfl,fun i hi=>(World.cell?_of_block (w:=w) (w':=w') (a:=⟨b,off+i,none⟩) (hk b (by omega))).trans (hc i hi)⟩
theorem RR.alloc {w:World} {R:Nat} {bs:List UInt8} {at_:Nat} {bad:Bool} (h:RR w R bs at_ bad) (o:Obj):RR (w.alloc o) R bs at_ bad:=
 h.keep fun b hb=>Below.heap_alloc w o b (by have:=h.lt;omega)
theorem RR.set {w:World} {R:Nat} {bs:List UInt8} {at_:Nat} {bad:Bool} (h:RR w R bs at_ bad) (X o:Nat) (u:Value) (hX:R < X):RR (w.setCell ⟨X,o,none⟩ u) R bs at_ bad:=
 h.keep fun b hb=>setCell_other w X o u b (by omega)
theorem bytes_setR {w:World} {R o:Nat} {a:Option Addr} {bs:List UInt8} {u:Value} (h:Bytes w a bs) (hlt:bs=[]∨∀ ad,a=some ad→ad.block < R):Bytes (w.setCell ⟨R,o,none⟩ u) a bs:=by
 rcases hlt with e|hlt
 ·exact .inl e
 rcases h with h|⟨b,off,rfl,hc⟩
 ·exact .inl h
 ·have hb:b < R:=hlt _ rfl
  exact .inr ⟨b,off,rfl,fun i hi=>(World.cell?_of_block (w:=w) (a:=⟨b,off+i,none⟩) (setCell_other w R o u b (by omega))).trans (hc i hi)⟩
theorem RRa.setAt {w:World} {R:Nat} {a:Option Addr} {cap:Nat} {bs:List UInt8} {at_:Nat} {bad:Bool} (h:RRa w R a cap bs at_ bad) (at':Nat) (ha:at'≤bs.length):RRa (w.setCell ⟨R,1,none⟩ (.int .i64 at')) R a cap bs at' bad:=by
 obtain ⟨hB,hl,hcap,hby,hlt,hat⟩:=h
 refine ⟨?_,hl,hcap,bytes_setR hby hlt,hlt,ha⟩
 simp only [World.setCell,Array.getElem?_modify,hB];simp
theorem RRa.setBad {w:World} {R:Nat} {a:Option Addr} {cap:Nat} {bs:List UInt8} {at_:Nat} {bad:Bool} (h:RRa w R a cap bs at_ bad) (b':Bool):RRa (w.setCell ⟨R,2,none⟩ (.bool b')) R a cap bs at_ b':=by
 obtain ⟨hB,hl,hcap,hby,hlt,hat⟩:=h
 refine ⟨?_,hl,hcap,bytes_setR hby hlt,hlt,hat⟩
 simp only [World.setCell,Array.getElem?_modify,hB];simp
theorem RRa.drewN {w:World} {R:Nat} {a:Option Addr} {cap:Nat} {bs:List UInt8} {at_:Nat} {bad:Bool} (h:RRa w R a cap bs at_ bad) (n:Nat):RRa (w.drewN n) R a cap bs at_ bad:=h
theorem grownBy_drewN {a w:World} {row:Option Nat} (h:a.grownBy w row) (n:Nat):a.grownBy (w.drewN n) row:=⟨h.os,h.tape,h.output,h.size,h.block⟩
theorem grownBy_setR {a w:World} {R:Nat} (h:a.grownBy w (some R)) (o:Nat) (u:Value):a.grownBy (w.setCell ⟨R,o,none⟩ u) (some R):=
 h.andThen (row':=some R) ⟨rfl,rfl,rfl,by simp [World.setCell],fun k _ hk=>setCell_other w R o u k (fun e=>hk (by rw [e]))⟩ (fun j hj=> .inr hj)
set_option maxRecDepth 100000 in
set_option maxHeartbeats 1000000 in
theorem next_end (R:Nat) (bs:List UInt8) (bad:Bool) (w:World) (hr:RR w R bs bs.length bad):
  Calls Tryz.prog 112 #[.pointer (some ⟨R,0,none⟩)] w fun e w'=>e= .returned (.int .u8 0)∧RR w' R bs bs.length true∧w.grownBy w' (some R):=by
 obtain ⟨a,cap,hr⟩:=hr
 obtain ⟨x0,x1,x2,f1,f2⟩:=hr.cells
 have HR:=Lib.hid hr
 clear hr
 go_enter Tryz.func112,Tryz.ntmps112
 go_wp2_with fail
 go_quiet (fail)
 go_wp2
 go_ret
 exact ⟨rfl,⟨a,cap,(HR.out.drewN nq).setBad true⟩,grownBy_setR (grownBy_drewN (grownBy_refl _ _) _) _ _⟩
set_option maxRecDepth 100000 in
set_option maxHeartbeats 1000000 in
theorem next_some (R:Nat) (bs:List UInt8) (at_:Nat) (bad:Bool) (w:World) (hr:RR w R bs at_ bad) (hlt:at_ < bs.length):
  Calls Tryz.prog 112 #[.pointer (some ⟨R,0,none⟩)] w fun e w'=>e= .returned (.int .u8 (bs[at_].toNat:Int))∧RR w' R bs (at_+1) bad∧w.grownBy w' (some R):=by
 obtain ⟨a,cap,hr⟩:=hr
 obtain ⟨x0,x1,x2,f1,f2⟩:=hr.cells
 have hlen:=hr.2.2.1
 obtain ⟨b,off,rfl,hc⟩:=hr.2.2.2.1.resolve_left (by intro e;subst e;simp at hlt)
 have hc0:=hc at_ hlt
 unfold byteV at hc0
 generalize bs[at_].toNat=x at *
 have hbR:b < R:=(hr.2.2.2.2.1.resolve_left (by intro e;subst e;simp at hlt)) _ rfl
 have HR:=Lib.hid hr
 have hd:decide (bs.length≤at_)=false:=by simp;omega
 have hi0:(0:Int)≤(at_:Int):=Int.natCast_nonneg _
 have hi1:(at_:Int) < (bs.length:Int):=by omega
 clear hr hc
 go_enter Tryz.func112,Tryz.ntmps112
 go_wp2_with fail
 go_quiet (fail)
 go_wp2
 have hr2:=(HR.out.drewN nq).setAt (at_+1) (by omega)
 rw [show ((at_+1:Nat):Int)=(at_:Int)+1 by omega] at hr2
 obtain ⟨y0,y1,y2,fy1,fy2⟩:=hr2.cells
 have hc1:((w.drewN nq).setCell ⟨R,1,none⟩ (.int .i64 ((at_:Int)+1))).cell? ⟨b,off+at_,none⟩=some (.int .u8 (x:Int)):=
  (World.cell?_of_block (w:=w) (a:=⟨b,off+at_,none⟩) (setCell_other (w.drewN nq) R 1 _ b (by omega))).trans hc0
 have hg2:w.grownBy ((w.drewN nq).setCell ⟨R,1,none⟩ (.int .i64 ((at_:Int)+1))) (some R):=grownBy_setR (grownBy_drewN (grownBy_refl _ _) _) _ _
 rw [show ((at_+1:Nat):Int)=(at_:Int)+1 by omega] at y1
 generalize (w.drewN nq).setCell ⟨R,1,none⟩ (.int .i64 ((at_:Int)+1))=W2 at *
 have HR2:=Lib.hid hr2
 have kw:IntKind.i64.wrap ((at_:Int)+1 - 1)=at_:=by rw [IntWalk.i64_in _ (by omega)];omega
 have hd':decide ((bs.length:Int)≤at_)=false:=by simp;omega
 clear hr2 x0 x1 x2 f1 f2 hc0
 go_quiet (fail)
 go_wp2
 go_ret
 exact ⟨rfl,⟨_,cap,HR2.out.drewN _⟩,grownBy_drewN hg2 _⟩
end Go.Proofs.YthidfoohhhkobaaGreat.Cd
