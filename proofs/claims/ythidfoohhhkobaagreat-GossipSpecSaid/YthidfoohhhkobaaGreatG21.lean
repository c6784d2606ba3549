import Derived.Test.YthidfoohhhkobaaGreatG16
import Derived.Test.YthidfoohhhkobaaGreatG17
import Derived.Test.YthidfoohhhkobaaGreatG11
import Derived.Test.YthidfoohhhkobaaGreatG20
namespace Go.Proofs.YthidfoohhhkobaaGreat
set_option linter.unusedSimpArgs false
set_option linter.unusedVariables false
open Go.RowKit
set_option maxRecDepth 100000
set_option maxHeartbeats 4000000
def DQ (w:World) (F:Ft) (r:Ret):Exit→Act→World→Prop:=fun e a w'=>match e with
 | .normal| .ret=>LeavesInM Fence.wide 0 Tryz.prog Tryz.f6 a.tmps (RQ w F r) a.defers .returning w'
 | .panic ch=>LeavesInM Fence.wide 0 Tryz.prog Tryz.f6 a.tmps (RQ w F r) a.defers (.panicking ch) w'
 |_=>False
def QF (r:RoomP) (e:Int):AQ:=fun x s=>match x with
 | .normal| .ret=>retL T s.st s.tm [.cell 4 28,.cell 5 41] (fun vs=>RetV vs (.rt [aRoom r,aI e]))
 | .panic ch=>(ch=[{ v:= .iface 41 (.int .i64 e),recovered:=false }]∧r=room0)∧lkT s.tm 4= .ptr 0 0∧lkT s.tm 5= .ptr 1 0∧lkT s.tm 40= .ptr 0 0∧lkT s.tm 41= .ptr 1 0∧(∃ r0 r1 r2 v,lkB s.st 0=some (.cells 28 [r0,r1,r2])∧lkB s.st 1=some (.cells 41 [v]))
 |_=>False
theorem dq_of {w:World} {F:Ft} {X Y:Nat} {r:RoomP} {e:Int} (x:Exit) (a:Act) (w':World) (h:AQQ Tryz.prog (Bdf w F 40 22 X Y) (QF r e) x a w'):DQ w F (.rt [aRoom r,aI e]) x a w':=by
 obtain ⟨E,s,rfl,hG,hq⟩:=h
 cases x with
 |normal=>exact do_good hG hq
 |ret=>exact do_good hG hq
 |panic ch=>
   obtain ⟨⟨rfl,rfl⟩,h4,h5,g0,g1,r0,r1,r2,v,hb0,hb1⟩:=hq
   exact do_bad hG h4 h5 g0 g1 hb0 hb1
 |_=>exact hq.elim
theorem roomChk_or (r:RoomP):roomChk r=0∨roomChk r=540:=by unfold roomChk;split;exact .inr rfl;split;exact .inl rfl;exact .inr rfl
theorem gdo_spec (r:RoomP) (a:ActP) (ho:okRoom r) (hf:roomChk r=0→fewR r) (ha:hOk a.hand) (hk:Cd.i64R a.kind):Spec Tryz.prog 6 [aRoom r,.agg (actD a)] (.rt [aRoom (doR r a),aI (doE r a)]):=by
 intro F w us hF hus
 refine callsIn_wide.1 (callsIn_of_wp_marks (F:=Fence.wide) (n:=0) Tryz.func6 rfl trivial (Code.wpIn_mono (Q:=DQ w F (.rt [aRoom (doR r a),aI (doE r a)])) (fun e a' w' hq=>by cases e<;>first |exact hq|exact hq.elim) ?_) rfl)
 have hRet:∀ s' E a',retQ T [.cell 4 28,.cell 5 41] (.rt [aRoom (doR r a),aI (doE r a)]) .ret s'→Gam Tryz.prog ⟨w,fun _=>False,F,40,fun _=>undef,none,fun _=>False,[]⟩ s' E a'→a'.defers=[]→DQ w F (.rt [aRoom (doR r a),aI (doE r a)]) .ret a' E.w:=fun s' E a' hq hG hD=>by
  show LeavesInM Fence.wide 0 Tryz.prog Tryz.f6 a'.tmps _ a'.defers .returning E.w
  rw [hD]
  exact leave_ret T_ok rfl rfl hG hq
 have hchk:=gcheck_spec r ho
 have main:∀ c,Tryz.f6.body=some c→AWx Tryz.prog ⟨w,fun _=>False,F,40,fun _=>undef,none,fun _=>False,[]⟩ c (DQ w F (.rt [aRoom (doR r a),aI (doE r a)])) ⟨⟩ ⟨inT 0 [aRoom r,.agg (actD a)],[],0⟩:=by
  intro c hc
  dsimp only [Tryz.f6] at hc
  cases hc
  refine awx_seq hRet ?_
  repeat' (first |(with_reducible first |refine two_t ?_|refine two_f ?_)|((with_reducible refine And.intro ?_ ?_);(focus (rfl)))|(with_reducible refine awd_seq ?_)|((first |((with_reducible refine awd_regionA T_ok ?_ ?_);kernel_rfl)|((with_reducible refine awd_condM ?_ ?_);kernel_rfl)|(with_reducible first |refine awd_skip ?_|refine awd_ret ?_) );simp only [↓avP,avQ,avR,forall_const,implies_true,Nat.reduceEqDiff,Nat.reduceAdd,Nat.reduceLeDiff,reduceCtorEq,avS,ty_28,ty_41]))
  refine awx_seq hRet ?_
  rcases roomChk_or r with h0|h0
  ·rw [h0] at hchk
   repeat' (first |((with_reducible refine two_intro ?_ ?_)<;>intro h<;>first |contradiction|(((revert h;intro _))))|(with_reducible refine awd_seq ?_)|((first |((with_reducible refine callI_spec (hchk) ?_ ?_ ?_ ?_);(focus (with_unfolding_all rfl));kernel_rfl;kernel_rfl)|((with_reducible refine awd_regionA T_ok ?_ ?_);kernel_rfl)|((with_reducible refine awd_condM ?_ ?_);kernel_rfl)|(with_reducible first |refine awd_skip ?_|refine awd_ret ?_) );simp only [↓avP,avQ,avR,forall_const,implies_true,Nat.reduceEqDiff,Nat.reduceAdd,Nat.reduceLeDiff,reduceCtorEq,avS,roomD_B,ty_28,ty_41]))
   refine awx_seq hRet ?_
   by_cases hoth:a.kind=1∨a.kind=2∨a.kind=3∨a.kind=4∨a.kind=5
   ·have hkr:1≤a.kind∧a.kind≤5:=by omega
    have hclone:=cloneP_spec (r.peers.map peerD) peer0 peer0 (by rw [List.length_map];have:=(netChk_of h0).2.1;omega)
    rcases hoth with hkk|hkk|hkk|hkk|hkk
    all_goals
     repeat' (first |((with_reducible refine And.intro ?_ ?_);(focus (first |exact keyOk_int_|omega|rfl)))|((((with_reducible refine awd_regionA T_ok ?_ ?_);kernel_rfl) );simp only [↓avP,avQ,avR,forall_const,implies_true,Nat.reduceEqDiff,Nat.reduceAdd,reduceCtorEq,Int.reduceEq,actS,ty_A,ty_3,ty_62,ty_58,hkk]))
     refine awx_seq hRet ?_
     repeat' (first |(with_reducible first |refine two_t ?_|refine two_f ?_)|((with_reducible refine And.intro ?_ ?_);(focus (rfl)))|(with_reducible refine awd_seq ?_)|((first |((with_reducible refine awd_regionA T_ok ?_ ?_);kernel_rfl)|((with_reducible refine awd_condM ?_ ?_);kernel_rfl)|(with_reducible first |refine awd_skip ?_|refine awd_ret ?_) );simp only [↓avP,avQ,avR,forall_const,implies_true,Nat.reduceEqDiff,Nat.reduceAdd,Nat.reduceLeDiff,reduceCtorEq,avS,ty_28,ty_41]))
     refine awx_defer rfl rfl rfl rfl rfl rfl (n0:=2) (n1:=3) rfl rfl (by decide) (by decide) (by decide) rfl (fun X Y E a' hG=>Code.wpIn_mono dq_of ((?_:AW Tryz.prog (Bdf w F 40 22 X Y) _ (QF (doR r a) (doE r a)) ⟨⟩ _) E a' hG))
     by_cases hE:doE r a=0
     ·have hok:=act_ok (w:=w) (F:=F) (d:=dOf 22 X Y) (gh:=gOfX X Y) ho h0 (hf h0) ha hE
      rw [hkk] at hok
      generalize doR r a=r1 at *
      rw [hE]
      repeat' (first |(with_reducible first |refine aw_seq ?_|refine aw_stop (id:=10) ?_)|((with_reducible refine And.intro ?_ ?_);(focus (rfl)))|((first |((with_reducible refine aw_regionA T_ok ?_ ?_);kernel_rfl)|((with_reducible refine callI_own (hclone) (by repeat' (first |exact ta_n|refine ta_d ?_)) ?_ ?_ ?_);kernel_rfl;kernel_rfl) );simp only [↓avP,avQ,avR,forall_const,implies_true,Nat.reduceEqDiff,Nat.reduceAdd,Nat.reduceLeDiff,reduceCtorEq,roomD_B,ty_28,ty_64,ty_22,setT]))
      refine ⟨?_⟩
      refine aw_regionA T_ok ?_ ?_
      ·kernel_rfl
      simp only [↓avP,avQ,avR,forall_const,implies_true,reduceIte,Nat.reduceEqDiff,Nat.reduceAdd,Nat.reduceSub,Int.reduceToNat,Nat.reduceLeDiff,Nat.reduceLT,reduceCtorEq,Int.reduceEq,avS,actS,↓zA_one,↓zA_cells,zA_map,↓zA_D,ty_A,↓rwpP.eq_def,inP,roomD_B,handS,hd_dr,↓zH_one,↓zH_cells,zH_map,↓zH_D,List.append_nil,ty_H,ty_3,ty_4,ty_28,ty_64,ty_61,ty_22,ty_56,ty_49,ty_26,ty_23,ty_52,ty_41,ty_50,ty_62,ty_58]
      refine callI_wk (s1:=sTo r1) (callI_wkS [(0,some 2),(1,some 3),(2,some 5),(3,some 6)] rfl rfl ?_ ?_ ?_ hok) ?_
      ·simp only [wkA,reduceIte,Nat.reduceEqDiff]
       (repeat' (first |exact subVs_fl _ _|exact subVs_d _ _|rfl|refine And.intro ?_ ?_))
      ·simp only [wkA,reduceIte,Nat.reduceEqDiff]
       (repeat' (first |exact subVs_fl _ _|exact subVs_d _ _|rfl|refine And.intro ?_ ?_))
      ·simp only [wkA,reduceIte,Nat.reduceEqDiff]
       (repeat' (first |exact subVs_fl _ _|exact subVs_d _ _|rfl|refine And.intro ?_ ?_))
      simp only [↓avP,avQ,avR,forall_const,implies_true,reduceIte,Nat.reduceEqDiff,Nat.reduceAdd,Nat.reduceSub,Int.reduceToNat,Nat.reduceLeDiff,Nat.reduceLT,reduceCtorEq,Int.reduceEq,avS,actS,↓zA_one,↓zA_cells,zA_map,↓zA_D,ty_A,↓rwpP.eq_def,inP,roomD_B,handS,hd_dr,↓zH_one,↓zH_cells,zH_map,↓zH_D,List.append_nil,ty_H,ty_3,ty_4,ty_28,ty_64,ty_61,ty_22,ty_56,ty_49,ty_26,ty_23,ty_52,ty_41,ty_50,ty_62,ty_58]
      refine aw_seq ?_
      refine aw_frzD 3 peer0 (r1.peers.map peerD) rfl rfl ?_
      simp only [frzS,frzM,frzK,frz1,frz2,frz_dV,List.map_cons,List.map_nil,setB,reduceIte,Nat.reduceEqDiff]
      repeat' (((first |((with_reducible refine aw_regionA T_ok ?_ ?_);kernel_rfl)|(with_reducible refine aw_ret ?_) );simp only [↓avP,avQ,avR,forall_const,implies_true,Nat.reduceEqDiff,Nat.reduceAdd,Nat.reduceLeDiff,reduceCtorEq,ty_28,ty_64,ty_41]))
      refine aw_ret ?_
      unfold QF
      simp only [↓avP,avQ,avR,forall_const,implies_true,reduceIte,Nat.reduceEqDiff,Nat.reduceAdd,Nat.reduceSub,Int.reduceToNat,Nat.reduceLeDiff,Nat.reduceLT,reduceCtorEq,Int.reduceEq,avS,actS,↓zA_one,↓zA_cells,zA_map,↓zA_D,ty_A,↓rwpP.eq_def,inP,roomD_B,handS,hd_dr,↓zH_one,↓zH_cells,zH_map,↓zH_D,List.append_nil,ty_H,ty_3,ty_4,ty_28,ty_64,ty_61,ty_22,ty_56,ty_49,ty_26,ty_23,ty_52,ty_41,ty_50,ty_62,ty_58]
      exact ⟨Sub.of_eq rfl,Sub.refl _⟩
     ·have hno:=act_no (w:=w) (F:=F) (d:=dOf 22 X Y) (gh:=gOfX X Y) ho h0 ha hkr hE
      have hR:doR r a=room0:=by rw [doR,if_neg hE]
      rw [hkk] at hno
      generalize doE r a=e at *
      repeat' (first |(with_reducible first |refine aw_seq ?_|refine aw_stop (id:=10) ?_)|((with_reducible refine And.intro ?_ ?_);(focus (rfl)))|((first |((with_reducible refine aw_regionA T_ok ?_ ?_);kernel_rfl)|((with_reducible refine callI_own (hclone) (by repeat' (first |exact ta_n|refine ta_d ?_)) ?_ ?_ ?_);kernel_rfl;kernel_rfl) );simp only [↓avP,avQ,avR,forall_const,implies_true,Nat.reduceEqDiff,Nat.reduceAdd,Nat.reduceLeDiff,reduceCtorEq,roomD_B,ty_28,ty_64,ty_22,setT]))
      refine ⟨?_⟩
      refine aw_regionP (errP e) T_ok ?_ ?_
      ·kernel_rfl
      simp only [↓avP,avQ,avR,forall_const,implies_true,reduceIte,Nat.reduceEqDiff,Nat.reduceAdd,Nat.reduceSub,Int.reduceToNat,Nat.reduceLeDiff,Nat.reduceLT,reduceCtorEq,Int.reduceEq,avS,actS,↓zA_one,↓zA_cells,zA_map,↓zA_D,ty_A,↓rwpP.eq_def,inP,roomD_B,handS,hd_dr,↓zH_one,↓zH_cells,zH_map,↓zH_D,List.append_nil,ty_H,ty_3,ty_4,ty_28,ty_64,ty_61,ty_22,ty_56,ty_49,ty_26,ty_23,ty_52,ty_41,ty_50,ty_62,ty_58]
      refine callP_wk (s1:=sBad) (callP_wkS [(0,some 2),(1,some 3),(2,some 5),(3,some 6)] rfl rfl ?_ ?_ ?_ hno) ?_
      ·simp only [wkA,reduceIte,Nat.reduceEqDiff]
       (repeat' (first |exact subVs_fl _ _|exact subVs_d _ _|rfl|refine And.intro ?_ ?_))
      ·simp only [wkA,reduceIte,Nat.reduceEqDiff]
       (repeat' (first |exact subVs_fl _ _|exact subVs_d _ _|rfl|refine And.intro ?_ ?_))
      ·simp only [wkA,reduceIte,Nat.reduceEqDiff]
       (repeat' (first |exact subVs_fl _ _|exact subVs_d _ _|rfl|refine And.intro ?_ ?_))
      exact ⟨⟨rfl,hR⟩,rfl,rfl,rfl,rfl,_,_,_,_,rfl,rfl⟩
   ·have b1:([a.kind]==[(1:Int)])=false:=by simpa using fun h=>hoth (.inl h)
    have b2:([a.kind]==[(2:Int)])=false:=by simpa using fun h=>hoth (.inr (.inl h))
    have b3:([a.kind]==[(3:Int)])=false:=by simpa using fun h=>hoth (.inr (.inr (.inl h)))
    have b4:([a.kind]==[(4:Int)])=false:=by simpa using fun h=>hoth (.inr (.inr (.inr (.inl h))))
    have b5:([a.kind]==[(5:Int)])=false:=by simpa using fun h=>hoth (.inr (.inr (.inr (.inr h))))
    have c1:([a.kind]=[(1:Int)])=False:=by simpa using fun h=>hoth (.inl h)
    have c2:([a.kind]=[(2:Int)])=False:=by simpa using fun h=>hoth (.inr (.inl h))
    have c3:([a.kind]=[(3:Int)])=False:=by simpa using fun h=>hoth (.inr (.inr (.inl h)))
    have c4:([a.kind]=[(4:Int)])=False:=by simpa using fun h=>hoth (.inr (.inr (.inr (.inl h))))
    have c5:([a.kind]=[(5:Int)])=False:=by simpa using fun h=>hoth (.inr (.inr (.inr (.inr h))))
    have a1:(a.kind=1)=False:=by simpa using fun h=>hoth (.inl h)
    have a2:(a.kind=2)=False:=by simpa using fun h=>hoth (.inr (.inl h))
    have a3:(a.kind=3)=False:=by simpa using fun h=>hoth (.inr (.inr (.inl h)))
    have a4:(a.kind=4)=False:=by simpa using fun h=>hoth (.inr (.inr (.inr (.inl h))))
    have a5:(a.kind=5)=False:=by simpa using fun h=>hoth (.inr (.inr (.inr (.inr h))))
    have hE:doE r a=1:=by unfold doE actE;simp only [h0,a1,a2,a3,a4,a5];simp
    have hR:doR r a=room0:=by rw [doR,hE,if_neg (by decide)]
    rw [hE,hR] at hRet ⊢
    have hk': -9223372036854775808≤a.kind∧a.kind≤9223372036854775807:=hk
    repeat' (first |((with_reducible refine And.intro ?_ ?_);(focus (first |exact keyOk_int_|omega|rfl)))|((((with_reducible refine awd_regionA T_ok ?_ ?_);kernel_rfl) );simp only [↓avP,avQ,avR,forall_const,implies_true,Nat.reduceEqDiff,Nat.reduceAdd,reduceCtorEq,Int.reduceEq,actS,ty_A,ty_3,ty_62,ty_58,c1,c2,c3,c4,c5]))
    refine awx_seq hRet ?_
    repeat' (first |(with_reducible first |refine two_t ?_|refine two_f ?_)|((with_reducible refine And.intro ?_ ?_);(focus (rfl)))|(with_reducible refine awd_seq ?_)|((first |((with_reducible refine awd_regionA T_ok ?_ ?_);kernel_rfl)|((with_reducible refine awd_condM ?_ ?_);kernel_rfl)|(with_reducible first |refine awd_skip ?_|refine awd_ret ?_) );simp only [↓avP,avQ,avR,forall_const,implies_true,Nat.reduceEqDiff,Nat.reduceAdd,Nat.reduceLeDiff,reduceCtorEq,avS,ty_28,ty_41]))
    exact ⟨sub_room0,Sub.refl _⟩
  ·rw [h0] at hchk
   repeat' (first |((with_reducible refine two_intro ?_ ?_)<;>intro h<;>first |contradiction|(((revert h;intro _))))|(with_reducible refine awd_seq ?_)|((first |((with_reducible refine callI_spec (hchk) ?_ ?_ ?_ ?_);(focus (with_unfolding_all rfl));kernel_rfl;kernel_rfl)|((with_reducible refine awd_regionA T_ok ?_ ?_);kernel_rfl)|((with_reducible refine awd_condM ?_ ?_);kernel_rfl)|(with_reducible first |refine awd_skip ?_|refine awd_ret ?_) );simp only [↓avP,avQ,avR,forall_const,implies_true,Nat.reduceEqDiff,Nat.reduceAdd,Nat.reduceLeDiff,reduceCtorEq,avS,roomD_B,ty_28,ty_41]))
   have hE:doE r a=540:=by unfold doE;rw [if_pos (by omega)]
   rw [hE,doR,hE,if_neg (by decide)]
   exact ⟨sub_room0,Sub.refl _⟩
 exact main _ rfl ⟨fun _=>none,F,w,fun _=>False⟩ _ (gam_in hF hus (by simp)) rfl

section
variable {n:Nat} {T:List Hd} {r:RoomP}
abbrev delA (i:Int):ActP:=⟨3,0,0,i,default⟩
theorem RInv.del (h:RInv n T r) (hs:smR T r) {i:Nat} (hi:i < r.net.queue.length):doE r (delA i)=0∧∃ y,y∈T∧(∃ p,r.net.queue[i]? =some p∧p.data=msg y∧0≤p.to_∧p.to_ < n∧doR r (delA i)=⟨setPeer r.peers p.to_ y,⟨r.net.queue.take i++r.net.queue.drop (i+1),r.net.apart⟩⟩):=by
 have hat:atErr r.net (i:Int)=0:=by rw [h.atE hs,if_neg (by omega)]
 have hE:doE r (delA i)=0:=by rw [h.do hs];exact hat
 refine ⟨hE,?_⟩
 obtain ⟨i1,i2,i3⟩:=at_in h hs hat
 rw [Int.toNat_natCast] at i3
 have hg:r.net.queue.getD i default=r.net.queue[i]:=by simp [List.getD_eq_getElem?_getD,List.getElem?_eq_getElem hi]
 obtain ⟨y,y1,y2,y3,y4,y5,y6,y7⟩:=h.que _ (List.getElem_mem hi)
 refine ⟨y,y1,r.net.queue[i],List.getElem?_eq_getElem hi,y2,y5,y6,?_⟩
 unfold doR
 rw [if_pos hE]
 unfold actR
 rw [if_neg (show ¬ (3:Int)=1 by decide),if_neg (show ¬ (3:Int)=2 by decide),if_pos rfl]
 simp only [i3,hg]
 rw [if_neg y7,y2,read_msg y (h.fT y y1).2 (h.fT y y1).1]
 unfold loseN
 rw [if_pos hat]
 rfl
def Kn (T:List Hd) (r:RoomP) (i:Nat) (x:Hd):Prop:=x∈r.peers.getD i []∨(x∈T∧∃ p∈r.net.queue,p.to_=(i:Int)∧p.data=msg x)
theorem RInv.del_ok (h:RInv n T r) (hs:smR T r) {i:Nat} (hi:i < r.net.queue.length):doE r (delA i)=0∧RInv n T (doR r (delA i))∧(doR r (delA i)).net.queue.length+1=r.net.queue.length∧∀ k x,Kn T (doR r (delA i)) k x↔Kn T r k x:=by
 obtain ⟨h0,y,y1,p,p1,p2,p3,p4,e⟩:=h.del hs hi
 have hsplit:∀ q,q∈r.net.queue↔q∈r.net.queue.take i++r.net.queue.drop (i+1)∨q=p:=fun q=>by
  have e1:r.net.queue=r.net.queue.take i++p :: r.net.queue.drop (i+1):=by
   conv=>lhs;rw [← List.take_append_drop i r.net.queue]
   rw [List.drop_eq_getElem_cons hi]
   congr 2
   rw [List.getElem?_eq_getElem hi] at p1
   exact Option.some.inj p1
  conv=>lhs;rw [e1]
  simp only [List.mem_append,List.mem_cons]
  exact ⟨fun h=>by rcases h with h|h|h;exact .inl (.inl h);exact .inr h;exact .inl (.inr h),fun h=>by rcases h with (h|h)|h;exact .inl h;exact .inr (.inr h);exact .inr (.inl h)⟩
 rw [e]
 refine ⟨h0,h.learn p3 p4 y1 fun q hq=> .inl ((hsplit q).2 (.inl hq)),?_,fun k x=>?_⟩
 ·simp only [List.length_append,List.length_take,List.length_drop]
  omega
 ·obtain ⟨_,g2,_⟩:=h.getD k
  have gf:∀ z∈r.peers.getD k [],fH z:=fun z hz=>h.fT z (g2 z hz)
  unfold Kn
  simp only [setPeer_get]
  by_cases hk:p.to_.toNat=k∧k < r.peers.length
  ·rw [if_pos hk,mem_learn gf (h.fT y y1)]
   constructor
   ·rintro ((hx|rfl)|⟨hx,q,hq,hq2⟩)
    ·exact .inl hx
    ·exact .inr ⟨y1,p,(hsplit p).2 (.inr rfl),by omega,p2⟩
    ·exact .inr ⟨hx,q,(hsplit q).2 (.inl hq),hq2⟩
   ·rintro (hx|⟨hx,q,hq,hq2,hq3⟩)
    ·exact .inl (.inl hx)
    ·rcases (hsplit q).1 hq with hq|rfl
     ·exact .inr ⟨hx,q,hq,hq2,hq3⟩
     ·exact .inl (.inr (msg_inj (h.fT x hx).2 (h.fT y y1).2 (h.fT x hx).1 (h.fT y y1).1 (hq3.symm.trans p2)))
  ·rw [if_neg hk]
   have hne:p.to_≠(k:Int):=fun e=>hk ⟨by omega,by rw [h.len];omega⟩
   constructor
   ·rintro (hx|⟨hx,q,hq,hq2⟩)
    ·exact .inl hx
    ·exact .inr ⟨hx,q,(hsplit q).2 (.inl hq),hq2⟩
   ·rintro (hx|⟨hx,q,hq,hq2,hq3⟩)
    ·exact .inl hx
    ·rcases (hsplit q).1 hq with hq|rfl
     ·exact .inr ⟨hx,q,hq,hq2,hq3⟩
     ·exact absurd hq2 hne
end

theorem spec_sub {P:Program} {f:FuncId} {xs ys:List A} {r:Ret} (h:Spec P f ys r) (hs:SubL xs ys):Spec P f xs r:=fun F w us hF hus=>h F w us hF (subL_ok hs hus)
theorem dA_p:(default:ActP).peer=0:=rfl
theorem dA_t:(default:ActP).to_=0:=rfl
theorem dA_a:(default:ActP).at_=0:=rfl
theorem dA_h:(default:ActP).hand=default:=rfl

theorem q54sameHands_spec (t:List Hd) (hl:t.length≤140737488351232):Spec Tryz.prog 15 [.one (handsD t),.one (handsD t)] (.r1 (aB true)):=by
 refine spec_of T_ok Tryz.func15 (by dsimp only [Tryz.f15]) rfl rfl (by simp) fun w F=>?_
 have hn:((t.length:Int) != (t.length:Int))=false:=by simp
 repeat' (first |(with_reducible first |refine aw_seq ?_|refine two_f ?_|refine aw_block ?_)|((first |((with_reducible refine aw_regionA T_ok ?_ ?_);kernel_rfl)|(with_reducible refine aw_skip ?_)|((with_reducible refine aw_condM ?_ ?_);kernel_rfl) );simp only [↓avP,avQ,avR,forall_const,implies_true,Nat.reduceEqDiff,Nat.reduceAdd,reduceCtorEq,avS,ty_49,hn]))
 refine aw_loopI (fun k:Nat=>⟨[(0,.d (handsD t)),(1,.d (handsD t)),(5,vI k)],[],0⟩) (fun k=>k≤t.length) (fun k=>t.length - k) 0 (Nat.zero_le _) (wk_of [] rfl rfl ?_ ?_) ?_
 ·simp only [wkA,reduceIte,Nat.reduceEqDiff]
  (repeat' (first |rfl|exact subVs_d _ _))
 ·simp only [wkA,reduceIte,Nat.reduceEqDiff]
 intro k hk
 rcases Nat.lt_or_ge k t.length with hlt|hge
 ·have hd2:=ltd hlt
  have hnk:decide (t.getD k default=t.getD k default)=true:=decide_eq_true rfl
  repeat' (first |(with_reducible first |refine aw_seq ?_|refine two_t ?_|refine two_f ?_)|((with_reducible refine And.intro ?_ ?_);(focus (first |exact eqHand|omega)))|(with_reducible refine aw_block ?_)|((first |((with_reducible refine aw_regionA T_ok ?_ ?_);kernel_rfl)|((with_reducible refine aw_drawnA T_ok ?_ ?_ ?_ ?_);kernel_rfl;kernel_rfl;(focus (decide+kernel)))|(with_reducible refine aw_skip ?_)|((with_reducible refine aw_condM ?_ ?_);kernel_rfl) );simp only [↓avP,avQ,avR,forall_const,implies_true,Nat.reduceEqDiff,Nat.reduceAdd,Nat.reduceLeDiff,reduceCtorEq,handS,ty_H,ty_49,hd2];try simp (disch:=omega) only [av_w]))
  refine ⟨k+1,by omega,by dsimp only;omega,wk_of [] rfl rfl ?_ ?_⟩
  ·simp only [wkA,reduceIte,Nat.reduceEqDiff]
   (repeat' (first |rfl|exact subVs_d _ _))
  ·simp only [wkA,reduceIte,Nat.reduceEqDiff]
 ·obtain rfl:k=t.length:=by omega
  have hd2:=ged (Nat.le_refl t.length)
  repeat' (first |(with_reducible first |refine aw_seq ?_|refine two_f ?_|refine aw_block ?_)|((first |((with_reducible refine aw_regionA T_ok ?_ ?_);kernel_rfl)|(with_reducible refine aw_exit ?_)|((with_reducible refine aw_condM ?_ ?_);kernel_rfl)|(with_reducible refine aw_ret ?_) );simp only [↓avP,avQ,avR,forall_const,implies_true,Nat.reduceEqDiff,reduceCtorEq,avS,roomD_B,netD_B,ty_49,ty_26,ty_23,ty_28,ty_22,hd2]))
  exact Sub.refl _
theorem q06samePk_spec (p:Pk) (hl:p.data.length≤140737488351232):Spec Tryz.prog 73 [aPk p,aPk p] (.r1 (aB true)):=by
 refine spec_of T_ok Tryz.func73 (by dsimp only [Tryz.f73]) rfl rfl (by simp) fun w F=>?_
 have h1:(p.frm==p.frm)=true:=by simp
 have h2:(p.to_==p.to_)=true:=by simp
 have h3:(p.data==p.data)=true:=by simp
 repeat' (first |(with_reducible refine aw_seq ?_)|((with_reducible refine And.intro ?_ ?_);(focus (rfl)))|((first |((with_reducible refine aw_regionA T_ok ?_ ?_);kernel_rfl)|(with_reducible refine aw_ret ?_) );simp only [↓avP,avQ,avR,forall_const,implies_true,Nat.reduceEqDiff,Nat.reduceAdd,reduceCtorEq,avS,pkD_B,u8s_by,strOf_by,str_tl,ty_3,ty_52,ty_50,ty_9]))
 all_goals exact Sub.refl _
theorem q06same_spec (n:NetP) (hn:okNet n) (hp:∀ p∈n.queue,p.data.length≤1000000):Spec Tryz.prog 38 [.agg (netD n),.agg (netD n)] (.r1 (aB true)):=by
 obtain ⟨hql,hal⟩:=hn
 have hn1:((n.queue.length:Int) != (n.queue.length:Int))=false:=by simp
 have hn2:((n.apart.length:Int) != (n.apart.length:Int))=false:=by simp
 refine spec_of T_ok Tryz.func38 (by dsimp only [Tryz.f38]) rfl rfl (by simp) fun w F=>?_
 repeat' (first |(with_reducible first |refine aw_seq ?_|refine two_f ?_|refine aw_block ?_)|((first |((with_reducible refine aw_regionA T_ok ?_ ?_);kernel_rfl)|(with_reducible refine aw_skip ?_)|((with_reducible refine aw_condM ?_ ?_);kernel_rfl) );simp only [↓avP,avQ,avR,forall_const,implies_true,Nat.reduceEqDiff,Nat.reduceAdd,reduceCtorEq,avS,netD_B,ty_26,ty_23,ty_24,hn1,hn2]))
 refine aw_loopI (fun k:Nat=>⟨[(2,.ptr 0 0),(3,.ptr 1 0),(5,vI k)],[(1,.cells 26 (dV (netD n))),(0,.cells 26 (dV (netD n)))],2⟩) (fun k=>k≤n.queue.length) (fun k=>n.queue.length - k) 0 (Nat.zero_le _) (wk_of [(0,some 0),(1,some 1)] rfl rfl ?_ ?_) ?_
 ·simp only [wkA,reduceIte,Nat.reduceEqDiff]
  (repeat' (first |rfl|exact subVs_d _ _))
 ·simp only [wkA,reduceIte,Nat.reduceEqDiff]
  (repeat' (first |rfl|exact subVs_d _ _))
 intro k hk
 rcases Nat.lt_or_ge k n.queue.length with hlt|hge
 ·have hd2:=ltd hlt
  have hm:n.queue.getD k default∈n.queue:=mem_getD hlt
  have hs:=q06samePk_spec (n.queue.getD k default) (by have:=hp _ hm;omega)
  repeat' (first |(with_reducible first |refine aw_seq ?_|refine two_t ?_|refine two_f ?_)|((with_reducible refine And.intro ?_ ?_);(focus (omega)))|(with_reducible refine aw_block ?_)|((first |((with_reducible refine aw_regionA T_ok ?_ ?_);kernel_rfl)|((with_reducible refine aw_drawnA T_ok ?_ ?_ ?_ ?_);kernel_rfl;kernel_rfl;(focus (decide+kernel)))|((with_reducible refine callK_intro (hs) ?_ ?_ ?_);(focus (with_unfolding_all rfl));kernel_rfl)|(with_reducible refine aw_skip ?_)|((with_reducible refine aw_condM ?_ ?_);kernel_rfl) );simp only [↓avP,avQ,avR,forall_const,implies_true,Nat.reduceEqDiff,Nat.reduceAdd,Nat.reduceLeDiff,reduceCtorEq,netD_B,pkD_B,ty_26,ty_52,ty_23,hd2];try simp (disch:=omega) only [av_w,Int.toNat_natCast]))
  refine ⟨k+1,by omega,by dsimp only;omega,wk_of [(0,some 0),(1,some 1)] rfl rfl ?_ ?_⟩
  ·simp only [wkA,reduceIte,Nat.reduceEqDiff]
   (repeat' (first |rfl|exact subVs_d _ _))
  ·simp only [wkA,reduceIte,Nat.reduceEqDiff]
   (repeat' (first |rfl|exact subVs_d _ _))
 obtain rfl:k=n.queue.length:=by omega
 have hd2:=ged (Nat.le_refl n.queue.length)
 repeat' (first |(with_reducible first |refine aw_seq ?_|refine two_f ?_|refine aw_block ?_)|((first |((with_reducible refine aw_regionA T_ok ?_ ?_);kernel_rfl)|(with_reducible refine aw_exit ?_)|((with_reducible refine aw_condM ?_ ?_);kernel_rfl)|(with_reducible refine aw_ret ?_) );simp only [↓avP,avQ,avR,forall_const,implies_true,Nat.reduceEqDiff,reduceCtorEq,avS,roomD_B,netD_B,ty_49,ty_26,ty_23,ty_28,ty_22,hd2]))
 refine aw_loopI (fun k:Nat=>⟨[(2,.ptr 0 0),(3,.ptr 1 0),(6,vI k)],[(1,.cells 26 (dV (netD n))),(0,.cells 26 (dV (netD n)))],2⟩) (fun k=>k≤n.apart.length) (fun k=>n.apart.length - k) 0 (Nat.zero_le _) (wk_of [(0,some 0),(1,some 1)] rfl rfl ?_ ?_) ?_
 ·simp only [wkA,reduceIte,Nat.reduceEqDiff]
  (repeat' (first |rfl|exact subVs_d _ _))
 ·simp only [wkA,reduceIte,Nat.reduceEqDiff]
  (repeat' (first |rfl|exact subVs_d _ _))
 intro k hk
 rcases Nat.lt_or_ge k n.apart.length with hlt|hge
 ·have hd3:=ltd hlt
  have hse:([(n.apart.getD k default).1,(n.apart.getD k default).2]==[(n.apart.getD k default).1,(n.apart.getD k default).2])=true:=by simp
  repeat' (first |(with_reducible first |refine aw_seq ?_|refine two_t ?_|refine two_f ?_)|((with_reducible refine And.intro ?_ ?_);(focus (first |exact eqPair|omega)))|(with_reducible refine aw_block ?_)|((first |((with_reducible refine aw_regionA T_ok ?_ ?_);kernel_rfl)|((with_reducible refine aw_drawnA T_ok ?_ ?_ ?_ ?_);kernel_rfl;kernel_rfl;(focus (decide+kernel)))|(with_reducible refine aw_skip ?_)|((with_reducible refine aw_condM ?_ ?_);kernel_rfl) );simp only [↓avP,avQ,avR,forall_const,implies_true,Nat.reduceEqDiff,Nat.reduceAdd,Nat.reduceLeDiff,reduceCtorEq,netD_B,prD_B,ty_26,ty_101,ty_24,hd3];try simp (disch:=omega) only [av_w]))
  refine ⟨k+1,by omega,by dsimp only;omega,wk_of [(0,some 0),(1,some 1)] rfl rfl ?_ ?_⟩
  ·simp only [wkA,reduceIte,Nat.reduceEqDiff]
   (repeat' (first |rfl|exact subVs_d _ _))
  ·simp only [wkA,reduceIte,Nat.reduceEqDiff]
   (repeat' (first |rfl|exact subVs_d _ _))
 ·obtain rfl:k=n.apart.length:=by omega
  have hd3:=ged (Nat.le_refl n.apart.length)
  repeat' (first |(with_reducible first |refine aw_seq ?_|refine two_f ?_)|((first |((with_reducible refine aw_regionA T_ok ?_ ?_);kernel_rfl)|(with_reducible refine aw_exit ?_)|((with_reducible refine aw_condM ?_ ?_);kernel_rfl)|(with_reducible refine aw_ret ?_) );simp only [↓avP,avQ,avR,forall_const,implies_true,Nat.reduceEqDiff,reduceCtorEq,avS,netD_B,ty_26,ty_24,hd3]))
  exact Sub.refl _
theorem q54same_spec (r:RoomP) (ho:okRoom r):Spec Tryz.prog 12 [aRoom r,aRoom r] (.r1 (aB true)):=by
 have hpl:r.peers.length≤140737488351232:=ho.1
 have hs6:=q06same_spec r.net ho.2.2.1 ho.2.2.2
 rw [netD] at hs6
 have hn1:((r.peers.length:Int) != (r.peers.length:Int))=false:=by simp
 refine spec_of T_ok Tryz.func12 (by dsimp only [Tryz.f12]) rfl rfl (by simp) fun w F=>?_
 repeat' (first |(with_reducible first |refine aw_seq ?_|refine two_f ?_|refine aw_block ?_)|((first |((with_reducible refine aw_regionA T_ok ?_ ?_);kernel_rfl)|((with_reducible refine callK_intro (hs6) ?_ ?_ ?_);(focus (with_unfolding_all rfl));kernel_rfl)|(with_reducible refine aw_skip ?_)|((with_reducible refine aw_condM ?_ ?_);kernel_rfl) );simp only [↓avP,avQ,avR,forall_const,implies_true,Nat.reduceEqDiff,Nat.reduceAdd,Nat.reduceLeDiff,reduceCtorEq,avS,roomD_B,ty_26,ty_28,ty_22,hn1]))
 refine aw_loopI (fun k:Nat=>⟨[(2,.ptr 0 0),(3,.ptr 1 0),(5,vI k)],[(1,.cells 28 (dV (roomD r))),(0,.cells 28 (dV (roomD r)))],2⟩) (fun k=>k≤r.peers.length) (fun k=>r.peers.length - k) 0 (Nat.zero_le _) (wk_of [(0,some 0),(1,some 1)] rfl rfl ?_ ?_) ?_
 ·simp only [wkA,reduceIte,Nat.reduceEqDiff]
  (repeat' (first |rfl|exact subVs_d _ _))
 ·simp only [wkA,reduceIte,Nat.reduceEqDiff]
  (repeat' (first |rfl|exact subVs_d _ _))
 intro k hk
 rcases Nat.lt_or_ge k r.peers.length with hlt|hge
 ·have hd2:=ltd hlt
  have hg:=getD_peers r.peers k hlt
  have hm:r.peers.getD k []∈r.peers:=mem_getD hlt
  have hs:=q54sameHands_spec (r.peers.getD k []) (ho.2.1 _ hm).1
  repeat' (first |(with_reducible first |refine aw_seq ?_|refine two_t ?_|refine two_f ?_)|((with_reducible refine And.intro ?_ ?_);(focus (omega)))|(with_reducible refine aw_block ?_)|((first |((with_reducible refine aw_regionA T_ok ?_ ?_);kernel_rfl)|((with_reducible refine aw_drawnA T_ok ?_ ?_ ?_ ?_);kernel_rfl;kernel_rfl;(focus (decide+kernel)))|((with_reducible refine callK_intro (hs) ?_ ?_ ?_);(focus (with_unfolding_all rfl));kernel_rfl)|(with_reducible refine aw_skip ?_)|((with_reducible refine aw_condM ?_ ?_);kernel_rfl) );simp only [↓avP,avQ,avR,forall_const,implies_true,Nat.reduceEqDiff,Nat.reduceAdd,reduceCtorEq,roomD_B,ty_49,ty_28,ty_22,ty_56,hd2,hg];try simp (disch:=omega) only [av_w,Int.toNat_natCast]))
  refine ⟨k+1,by omega,by dsimp only;omega,wk_of [(0,some 0),(1,some 1)] rfl rfl ?_ ?_⟩
  ·simp only [wkA,reduceIte,Nat.reduceEqDiff]
   (repeat' (first |rfl|exact subVs_d _ _))
  ·simp only [wkA,reduceIte,Nat.reduceEqDiff]
   (repeat' (first |rfl|exact subVs_d _ _))
 ·obtain rfl:k=r.peers.length:=by omega
  have hd2:=ged (Nat.le_refl r.peers.length)
  repeat' (first |(with_reducible first |refine aw_seq ?_|refine two_f ?_|refine aw_block ?_)|((first |((with_reducible refine aw_regionA T_ok ?_ ?_);kernel_rfl)|(with_reducible refine aw_exit ?_)|((with_reducible refine aw_condM ?_ ?_);kernel_rfl)|(with_reducible refine aw_ret ?_) );simp only [↓avP,avQ,avR,forall_const,implies_true,Nat.reduceEqDiff,reduceCtorEq,avS,roomD_B,netD_B,ty_49,ty_26,ty_23,ty_28,ty_22,hd2]))
  exact Sub.refl _

theorem hd_b0 (h:Hd) (x y z:Int):splice (dV (handD h)) 0 [vI x,vI y,vI z]=dV (handD { h with line:=x,at_:=y,arr:=z }):=rfl
def exH (n:Int):Hd:={ (default:Hd) with line:=1,at_:=5,arr:=9,frm:=3,to_:=4,many:=n,time:=7 }
theorem ghand_spec (n:Int):Spec Tryz.prog 13 [aI n] (.r1 (.agg (handD (exH n)))):=by
 refine spec_of T_ok Tryz.func13 (by dsimp only [Tryz.f13]) rfl rfl (by simp) fun w F=>?_
 repeat' (first |(with_reducible refine aw_seq ?_)|((with_reducible refine And.intro ?_ ?_);(focus (rfl)))|((first |((with_reducible refine aw_regionA T_ok ?_ ?_);kernel_rfl)|(with_reducible refine aw_ret ?_) );simp only [↓avP,avQ,avR,forall_const,implies_true,Nat.reduceEqDiff,Nat.reduceAdd,Nat.reduceLeDiff,reduceCtorEq,avS,↓hd_b0,↓hd_t4,↓hd_t5,↓hd_s6,↓hd_s39,handS,hd_dr,↓zH_one,↓zH_cells,zH_map,ty_H,ty_30]))
 exact Sub.refl _
theorem exH_form:fH (exH 2):=⟨by decide+kernel,by
 have z:∀ n:Int,0≤n→n≤9→Cd.i64R n:=fun n a b=>⟨by omega,by omega⟩
 exact ⟨z 1 (by omega) (by omega),z 5 (by omega) (by omega),z 9 (by omega) (by omega),z 0 (by omega) (by omega),z 3 (by omega) (by omega),z 4 (by omega) (by omega),z 2 (by omega) (by omega),z 7 (by omega) (by omega),z 0 (by omega) (by omega),z 0 (by omega) (by omega)⟩⟩
abbrev two:RoomP:=⟨[[],[]],net0⟩
abbrev exX (h:Hd):RoomP:=⟨[[],[h]],⟨[⟨1,0,msg h⟩],[]⟩⟩
abbrev exY (h:Hd):RoomP:=⟨[[h],[h]],net0⟩
theorem new2:newR 2=two:=by unfold newR;rw [if_neg (by omega)];rfl
theorem two_inv (T:List Hd) (hT:∀ x∈T,fH x):RInv 2 T two:=by
 have:=(RInv.nw (n:=2) (by omega) (by omega)).mono (T':=T) (fun x hx=>by cases hx) hT
 rw [new2] at this
 exact this
theorem do_x {h:Hd} (hh:fH h):doE two ⟨1,1,0,0,h⟩=0∧doR two ⟨1,1,0,0,h⟩=exX h:=by
 have hI:=two_inv [] (by simp)
 have hE:doE two ⟨1,1,0,0,h⟩=0:=by
  rw [hI.do ⟨by simp,by simp⟩]
  simp [actE,inR,hh.1]
 refine ⟨hE,?_⟩
 rw [doR,if_pos hE,actR,if_pos rfl]
 rfl
theorem do_z:doE two ⟨1,0,0,0,default⟩=480∧doR two ⟨1,0,0,0,default⟩=room0:=by
 have hI:=two_inv [] (by simp)
 have hf:formB (default:Hd)=false:=by decide+kernel
 have hE:doE two ⟨1,0,0,0,default⟩=480:=by
  rw [hI.do ⟨by simp,by simp⟩]
  simp [actE,inR,hf]
 exact ⟨hE,by rw [doR,hE];rfl⟩
theorem do_i:doE two (delA 0)=1∧doR two (delA 0)=room0:=by
 have hI:=two_inv [] (by simp)
 have hE:doE two (delA 0)=1:=by
  rw [hI.do ⟨by simp,by simp⟩]
  have:=hI.atE (i:=0) ⟨by simp,by simp⟩
  unfold actE
  rw [if_neg (show ¬ (3:Int)=1 by decide),if_neg (show ¬ (3:Int)=2 by decide),if_pos (.inl rfl)]
  rw [this];rfl
 exact ⟨hE,by rw [doR,hE];rfl⟩
theorem ex_inv {h:Hd} (hh:fH h):RInv 2 [h] (exX h):=by
 have hT:∀ x∈[h],fH x:=fun x hx=>by rw [List.mem_singleton.1 hx];exact hh
 refine ⟨rfl,by omega,by omega,hT,fun l hl=>?_,fun l hl x hx=>?_,fun p hp=>?_,rfl⟩
 ·simp only [List.mem_cons,List.not_mem_nil,or_false] at hl
  rcases hl with rfl|rfl
  ·exact List.Pairwise.nil
  ·exact List.pairwise_singleton _ _
 ·simp only [List.mem_cons,List.not_mem_nil,or_false] at hl
  rcases hl with rfl|rfl
  ·cases hx
  ·exact hx
 ·rw [List.mem_singleton.1 hp]
  exact ⟨h,by simp,rfl,by simp,by simp,by simp,by simp,by simp⟩
theorem do_y {h:Hd} (hh:fH h):doE (exX h) (delA 0)=0∧doR (exX h) (delA 0)=exY h:=by
 obtain ⟨h0,y,y1,p,p1,p2,p3,p4,e⟩:=(ex_inv hh).del ⟨by simp,by simp⟩ (i:=0) (by simp)
 refine ⟨h0,?_⟩
 have hp:p=⟨1,0,msg h⟩:=by simpa using p1.symm
 have hy:y=h:=by simpa using y1
 rw [show ((0:Nat):Int)=0 from rfl] at e
 rw [e,hp,hy]
 rfl
theorem gsane_spec:Spec Tryz.prog 4 [] (.r1 (aB true)):=by
 have hh:=exH_form
 have hnew:=gnew_spec 2
 have hnew0:=gnew_spec 0
 have he2:newE 2=0:=rfl
 have he0:newE 0=1:=rfl
 have hr0:newR 0=room0:=rfl
 rw [new2,he2] at hnew
 rw [hr0,he0] at hnew0
 have hhd:=ghand_spec 2
 obtain ⟨x1,x2⟩:=do_x hh
 obtain ⟨z1,z2⟩:=do_z
 obtain ⟨i1,i2⟩:=do_i
 obtain ⟨y1,y2⟩:=do_y hh
 have k1:Cd.i64R 1:=⟨by decide,by decide⟩
 have k3:Cd.i64R 3:=⟨by decide,by decide⟩
 have hTI:=two_inv [] (by simp)
 have hXI:=ex_inv hh
 have dx:=gdo_spec two ⟨1,1,0,0,exH 2⟩ (hTI.ok (by simp) (by simp)) (fun _=>hTI.few (by simp) (by simp)) hh.2 k1
 have dz:=gdo_spec two ⟨1,0,0,0,default⟩ (hTI.ok (by simp) (by simp)) (fun _=>hTI.few (by simp) (by simp)) hOk_zero k1
 have di:=gdo_spec two (delA 0) (hTI.ok (by simp) (by simp)) (fun _=>hTI.few (by simp) (by simp)) hOk_zero k3
 have dy:=gdo_spec (exX (exH 2)) (delA 0) (hXI.ok (by simp) (by simp)) (fun _=>hXI.few (by simp) (by simp)) hOk_zero k3
 rw [x1,x2] at dx
 rw [z1,z2] at dz
 rw [i1,i2] at di
 rw [y1,y2] at dy
 have hYI:RInv 2 [exH 2] (exY (exH 2)):=by
  obtain ⟨_,h1,_,_⟩:=hXI.del_ok ⟨by simp,by simp⟩ (i:=0) (by simp)
  rw [show ((0:Nat):Int)=0 from rfl,y2] at h1
  exact h1
 have c0:=gcheck_spec room0 ⟨by simp,by simp,⟨by simp,by simp⟩,by simp⟩
 have cy:=gcheck_spec (exY (exH 2)) (hYI.ok (by simp) (by simp))
 rw [show roomChk room0=540 from rfl] at c0
 rw [hYI.chk (by simp) (by simp)] at cy
 have hms:=q54message_spec (exH 2) hh.2
 have hsh:=q54sameHands_spec [exH 2] (by simp)
 have c00:=spec_sub (xs:=[.agg [.c (.slice none 0 0),.c (.slice none 0 0),.c (.slice none 0 0)]]) c0 ⟨sub_room0,trivial⟩
 have q1:(((1:Nat):Int)==1)=true:=rfl
 have q0:(((0:Nat):Int)==0)=true:=rfl
 have q2:(((2:Nat):Int) != 2)=false:=rfl
 have q3:((0:Int) != 0)=false:=rfl
 have q4:((1:Int) != 1)=false:=rfl
 have q5:((480:Int) != 480)=false:=rfl
 have q6:((540:Int)==540)=true:=rfl
 have q7:((0:Int)==0)=true:=rfl
 have q8:(msg (exH 2)==msg (exH 2))=true:=by simp
 generalize exH 2=h at *
 refine spec_of T_ok Tryz.func4 (by dsimp only [Tryz.f4]) rfl rfl (by simp) fun w F=>?_
 repeat' (first |(with_reducible first |refine aw_seq ?_|refine two_f ?_)|((with_reducible refine And.intro ?_ ?_);(focus (first |omega|rfl|decide)))|((first |((with_reducible refine aw_regionA T_ok ?_ ?_);kernel_rfl)|((with_reducible refine aw_drawnEA (id:=3) [(8,7)] [] T_ok ?_ ?_ ?_ ?_ ?_);kernel_rfl;kernel_rfl;(focus (decide+kernel));kernel_rfl)|((with_reducible refine aw_drawnA T_ok ?_ ?_ ?_ ?_);kernel_rfl;kernel_rfl;(focus (decide+kernel)))|((with_reducible refine callI_spec (hnew) ?_ ?_ ?_ ?_);(focus (with_unfolding_all rfl));kernel_rfl;kernel_rfl)|((with_reducible refine callI_spec (hnew0) ?_ ?_ ?_ ?_);(focus (with_unfolding_all rfl));kernel_rfl;kernel_rfl)|((with_reducible refine callK_intro (hhd) ?_ ?_ ?_);(focus (with_unfolding_all rfl));kernel_rfl)|((with_reducible refine callI_spec (hhd) ?_ ?_ ?_ ?_);(focus (with_unfolding_all rfl));kernel_rfl;kernel_rfl)|((with_reducible refine callK_intro (dx) ?_ ?_ ?_);(focus (((repeat' (first |exact ta_n|refine ta_a ?_));done)));kernel_rfl)|((with_reducible refine callI_spec (dz) ?_ ?_ ?_ ?_);(focus (with_unfolding_all rfl));kernel_rfl;kernel_rfl)|((with_reducible refine callI_spec (di) ?_ ?_ ?_ ?_);(focus (with_unfolding_all rfl));kernel_rfl;kernel_rfl)|((with_reducible refine callI_spec (dy) ?_ ?_ ?_ ?_);(focus (with_unfolding_all rfl));kernel_rfl;kernel_rfl)|((with_reducible refine callK_intro (c00) ?_ ?_ ?_);(focus (with_unfolding_all rfl));kernel_rfl)|((with_reducible refine callK_intro (cy) ?_ ?_ ?_);(focus (with_unfolding_all rfl));kernel_rfl)|((with_reducible refine callK_intro (hms) ?_ ?_ ?_);(focus (((repeat' (first |exact ta_n|refine ta_a ?_));done)));kernel_rfl)|((with_reducible refine callK_intro (hsh) ?_ ?_ ?_);(focus (with_unfolding_all rfl));kernel_rfl)|(with_reducible first |refine fin2_intro ?_|refine aw_skip ?_)|((with_reducible refine aw_condM ?_ ?_);kernel_rfl)|(with_reducible refine aw_ret ?_) );simp only [↓avP,avQ,avR,forall_const,implies_true,Nat.reduceEqDiff,Nat.reduceAdd,Int.reduceToNat,Nat.reduceLeDiff,Nat.reduceLT,reduceCtorEq,↓earlyL.eq_def,avS,peer_h,List.getD_cons_zero,List.getD_cons_succ,↓ac_s0,↓ac_s1,↓ac_s4,dA_p,dA_t,dA_a,dA_h,u8s_by,strOf_by,str_tl,roomD_B,pkD_B,actS,↓zA_one,↓zA_cells,ty_A,handS,↓zH_D,ty_H,ty_5,ty_9,ty_28,ty_22,ty_56,ty_49,ty_26,ty_23,ty_52,ty_50,q1,q0,q2,q3,q4,q5]))
 all_goals exact Sub.refl _

theorem glawSpec_spec (n:Int) (r:RoomP) (a:ActP) (hr:okArg r) (ha:hOk a.hand∧Cd.i64R a.kind):Spec Tryz.prog 3 [aI n,aRoom r,.agg (actD a)] (.r1 (aB true)):=by
 have hsane:=gsane_spec
 have hfw:=q54few_spec r hr.1.1 hr.2.1.1
 cases hfb:fewRB r with
 |false=>
   rw [hfb] at hfw
   refine spec_of T_ok Tryz.func3 (by dsimp only [Tryz.f3]) rfl rfl (by simp) fun w F=>?_
   repeat' (first |(with_reducible first |refine aw_seq ?_|refine two_t ?_|refine two_f ?_)|((first |((with_reducible refine aw_regionA T_ok ?_ ?_);kernel_rfl)|((with_reducible refine callI_spec (hsane) (by repeat' (exact ta_n)) ?_ ?_ ?_);kernel_rfl;kernel_rfl)|((with_reducible refine callI_spec (hfw) ?_ ?_ ?_ ?_);(focus (((repeat' (first |exact ta_n|refine ta_a ?_));done)));kernel_rfl;kernel_rfl)|(with_reducible refine aw_skip ?_)|((with_reducible refine aw_condM ?_ ?_);kernel_rfl)|(with_reducible refine aw_ret ?_) );simp only [↓avP,avQ,avR,forall_const,implies_true,Nat.reduceEqDiff,Nat.reduceAdd,Nat.reduceLeDiff,reduceCtorEq,avS,roomD_B,ty_28]))
   exact Sub.refl _
 |true=>
 rw [hfb] at hfw
 obtain ⟨ho,hf⟩:=few_facts hr hfb
 have hgd:=gdo_spec r a ho hf ha.1 ha.2
 have hqd:=q54do_spec r a ho hf ha.1
 have hgn:=gnew_spec n
 have hqn:=q54new_spec n
 have hgc:=gcheck_spec r ho
 have hqc:=q54check_spec r ho
 have hs1:=q54same_spec (doR r a) (okRoom_do ho hf ha.1)
 have hs2:=q54same_spec (newR n) (okRoom_new n)
 generalize doR r a=X at *
 generalize doE r a=e at *
 generalize newR n=U at *
 generalize newE n=g at *
 generalize roomChk r=c at *
 have b1:(c==c)=true:=by simp
 have b2:(e==e)=true:=by simp
 have b3:(g==g)=true:=by simp
 clear hr ha ho hf hfb
 refine spec_of T_ok Tryz.func3 (by dsimp only [Tryz.f3]) rfl rfl (by simp) fun w F=>?_
 repeat' (first |(with_reducible first |refine aw_seq ?_|refine two_f ?_)|((with_reducible refine And.intro ?_ ?_);(focus (rfl)))|((first |((with_reducible refine aw_regionA T_ok ?_ ?_);kernel_rfl)|((with_reducible refine aw_drawnA T_ok ?_ ?_ ?_ ?_);kernel_rfl;kernel_rfl;(focus (decide+kernel)))|((with_reducible refine callI_spec (hsane) (by repeat' (exact ta_n)) ?_ ?_ ?_);kernel_rfl;kernel_rfl)|((with_reducible refine callI_spec (hfw) ?_ ?_ ?_ ?_);(focus (((repeat' (first |exact ta_n|refine ta_a ?_));done)));kernel_rfl;kernel_rfl)|((with_reducible refine callI_spec (hgd) ?_ ?_ ?_ ?_);(focus (((repeat' (first |exact ta_n|refine ta_a ?_));done)));kernel_rfl;kernel_rfl)|((with_reducible refine callI_spec (hqd) ?_ ?_ ?_ ?_);(focus (((repeat' (first |exact ta_n|refine ta_a ?_));done)));kernel_rfl;kernel_rfl)|((with_reducible refine callI_spec (hgn) ?_ ?_ ?_ ?_);(focus (((repeat' (first |exact ta_n|refine ta_d ?_));done)));kernel_rfl;kernel_rfl)|((with_reducible refine callI_spec (hqn) ?_ ?_ ?_ ?_);(focus (((repeat' (first |exact ta_n|refine ta_d ?_));done)));kernel_rfl;kernel_rfl)|((with_reducible refine callK_intro (hgc) ?_ ?_ ?_);(focus (((repeat' (first |exact ta_n|refine ta_a ?_));done)));kernel_rfl)|((with_reducible refine callK_intro (hqc) ?_ ?_ ?_);(focus (((repeat' (first |exact ta_n|refine ta_a ?_));done)));kernel_rfl)|((with_reducible refine callK_intro (hs1) ?_ ?_ ?_);(focus (((repeat' (first |exact ta_n|refine ta_a ?_));done)));kernel_rfl)|((with_reducible refine callK_intro (hs2) ?_ ?_ ?_);(focus (((repeat' (first |exact ta_n|refine ta_a ?_));done)));kernel_rfl)|(with_reducible refine aw_skip ?_)|((with_reducible refine aw_condM ?_ ?_);kernel_rfl)|(with_reducible refine aw_ret ?_) );simp only [↓avP,avQ,avR,forall_const,implies_true,Nat.reduceEqDiff,Nat.reduceAdd,Nat.reduceLeDiff,reduceCtorEq,avS,roomD_B,actS,ty_A,ty_28]))
 exact Sub.refl _

theorem Tryz.own:ownKnob Tryz.prog.godebug=none:=by kernel_rfl
theorem Tryz.laidOut:laidOutB Tryz.prog=true:=by kernel_rfl
end Go.Proofs.YthidfoohhhkobaaGreat
