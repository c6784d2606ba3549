import Derived.Test.YthidfoohhhkobaaH20
namespace Go.Proofs.Ythidfoohhhkobaa
set_option linter.unusedSimpArgs false
set_option linter.unusedVariables false
open Go.RowKit
set_option maxRecDepth 100000
set_option maxHeartbeats 4000000
theorem q54sameHands_spec (t : List Hd) (hl : t.length ≤ 140737488351232) : Spec Try.prog 14 [.one (handsD t), .one (handsD t)] (.r1 (aB true)) := by
  refine spec_of T_ok Try.func14 (by dsimp only [Try.f14]) rfl rfl (by simp) fun w F => ?_
  have hn : ((t.length : Int) != (t.length : Int)) = false := by simp
  repeat' (first | (with_reducible refine aw_seq ?_) | ((with_reducible refine two_intro ?_ ?_) <;> intro h <;> first | contradiction | (((guard_hyp h : false = false; clear h)))) | (with_reducible refine aw_block ?_) | ((first | ((with_reducible refine aw_regionA T_ok ?_ ?_); kernel_rfl) | (with_reducible refine aw_skip ?_) | ((with_reducible refine aw_condM ?_ ?_); kernel_rfl) ); simp only [↓avP, avQ, avR, forall_const, implies_true, Nat.reduceEqDiff, Nat.reduceAdd, reduceCtorEq, avS, ty_32, hn]; try simp (disch := omega) only [av_w, av_t1, av_tp, Int.toNat_natCast]))
  refine aw_loopI (fun k : Nat => ⟨[(0, .d (handsD t)), (1, .d (handsD t)), (5, vI k)], [], 0⟩) (fun k => k ≤ t.length) (fun k => t.length - k) 0 (Nat.zero_le _) (wk_of [] rfl rfl ?_ ?_) ?_
  · simp only [wkA, reduceIte, Nat.reduceEqDiff]
    (repeat' (first | rfl | exact subVs_d _ _))
  · simp only [wkA, reduceIte, Nat.reduceEqDiff]
  intro k hk
  rcases Nat.lt_or_ge k t.length with hlt | hge
  · have hd2 := ltd hlt
    have hnk : decide (t.getD k default = t.getD k default) = true := decide_eq_true rfl
    repeat' (first | (with_reducible refine aw_seq ?_) | ((with_reducible refine two_intro ?_ ?_) <;> intro h <;> first | contradiction | ((first | (guard_hyp h : true = true; clear h) | (guard_hyp h : false = false; clear h)))) | ((with_reducible refine And.intro ?_ ?_); (focus (first | exact eqHand | omega))) | (with_reducible refine aw_block ?_) | ((first | ((with_reducible refine aw_regionA T_ok ?_ ?_); kernel_rfl) | ((with_reducible refine aw_drawnA T_ok ?_ ?_ ?_ ?_); kernel_rfl; kernel_rfl; (focus (decide +kernel))) | (with_reducible refine aw_skip ?_) | ((with_reducible refine aw_condM ?_ ?_); kernel_rfl) ); simp only [↓avP, avQ, avR, forall_const, implies_true, Nat.reduceEqDiff, Nat.reduceAdd, Nat.reduceLeDiff, reduceCtorEq, handS, ty_H, ty_32, hd2]; try simp (disch := omega) only [av_w]))
    refine ⟨k + 1, by omega, by dsimp only; omega, wk_of [] rfl rfl ?_ ?_⟩
    · simp only [wkA, reduceIte, Nat.reduceEqDiff]
      (repeat' (first | rfl | exact subVs_d _ _))
    · simp only [wkA, reduceIte, Nat.reduceEqDiff]
  · obtain rfl : k = t.length := by omega
    have hd2 := ged (Nat.le_refl t.length)
    repeat' (first | (with_reducible refine aw_seq ?_) | ((with_reducible refine two_intro ?_ ?_) <;> intro h <;> first | contradiction | (((guard_hyp h : false = false; clear h)))) | (with_reducible refine aw_block ?_) | ((first | ((with_reducible refine aw_regionA T_ok ?_ ?_); kernel_rfl) | (with_reducible refine aw_exit ?_) | ((with_reducible refine aw_condM ?_ ?_); kernel_rfl) | (with_reducible refine aw_ret ?_) ); simp only [↓avP, avQ, avR, forall_const, implies_true, Nat.reduceEqDiff, reduceCtorEq, avS, roomD_B, netD_B, ty_32, ty_29, ty_26, ty_31, ty_25, hd2]; try simp (disch := omega) only [av_w, av_t1, av_tp, Int.toNat_natCast]))
    exact Sub.refl _
theorem q06samePk_spec (p : Pk) (hl : p.data.length ≤ 140737488351232) : Spec Try.prog 38 [aPk p, aPk p] (.r1 (aB true)) := by
  refine spec_of T_ok Try.func38 (by dsimp only [Try.f38]) rfl rfl (by simp) fun w F => ?_
  have h1 : (p.frm == p.frm) = true := by simp
  have h2 : (p.to_ == p.to_) = true := by simp
  have h3 : (p.data == p.data) = true := by simp
  repeat' (first | (with_reducible refine aw_seq ?_) | ((with_reducible refine And.intro ?_ ?_); (focus (rfl))) | ((first | ((with_reducible refine aw_regionA T_ok ?_ ?_); kernel_rfl) | (with_reducible refine aw_ret ?_) ); simp only [↓avP, avQ, avR, forall_const, implies_true, Nat.reduceEqDiff, Nat.reduceAdd, reduceCtorEq, avS, pkD_B, u8s_by, strOf_by, str_tl, ty_3, ty_63, ty_23, ty_9]; try simp (disch := omega) only [av_w, av_t1, av_tp, Int.toNat_natCast]))
  all_goals exact Sub.refl _
theorem q06same_spec (n : NetP) (hn : okNet n) (hp : ∀ p ∈ n.queue, p.data.length ≤ 1000000) : Spec Try.prog 20 [.agg (netD n), .agg (netD n)] (.r1 (aB true)) := by
  obtain ⟨hql, hal⟩ := hn
  have hn1 : ((n.queue.length : Int) != (n.queue.length : Int)) = false := by simp
  have hn2 : ((n.apart.length : Int) != (n.apart.length : Int)) = false := by simp
  refine spec_of T_ok Try.func20 (by dsimp only [Try.f20]) rfl rfl (by simp) fun w F => ?_
  repeat' (first | (with_reducible refine aw_seq ?_) | ((with_reducible refine two_intro ?_ ?_) <;> intro h <;> first | contradiction | (((guard_hyp h : false = false; clear h)))) | (with_reducible refine aw_block ?_) | ((first | ((with_reducible refine aw_regionA T_ok ?_ ?_); kernel_rfl) | (with_reducible refine aw_skip ?_) | ((with_reducible refine aw_condM ?_ ?_); kernel_rfl) ); simp only [↓avP, avQ, avR, forall_const, implies_true, Nat.reduceEqDiff, Nat.reduceAdd, reduceCtorEq, avS, netD_B, ty_29, ty_26, ty_27, hn1, hn2]; try simp (disch := omega) only [av_w, av_t1, av_tp, Int.toNat_natCast]))
  refine aw_loopI (fun k : Nat => ⟨[(2, .ptr 0 0), (3, .ptr 1 0), (5, vI k)], [(1, .cells 29 (dV (netD n))), (0, .cells 29 (dV (netD n)))], 2⟩) (fun k => k ≤ n.queue.length) (fun k => n.queue.length - k) 0 (Nat.zero_le _) (wk_of [(0, some 0), (1, some 1)] rfl rfl ?_ ?_) ?_
  · simp only [wkA, reduceIte, Nat.reduceEqDiff]
    (repeat' (first | rfl | exact subVs_d _ _))
  · simp only [wkA, reduceIte, Nat.reduceEqDiff]
    (repeat' (first | rfl | exact subVs_d _ _))
  intro k hk
  rcases Nat.lt_or_ge k n.queue.length with hlt | hge
  · have hd2 := ltd hlt
    have hm : n.queue.getD k default ∈ n.queue := mem_getD hlt
    have hs := q06samePk_spec (n.queue.getD k default) (by have := hp _ hm; omega)
    repeat' (first | (with_reducible refine aw_seq ?_) | ((with_reducible refine two_intro ?_ ?_) <;> intro h <;> first | contradiction | ((first | (guard_hyp h : true = true; clear h) | (guard_hyp h : false = false; clear h)))) | ((with_reducible refine And.intro ?_ ?_); (focus (omega))) | (with_reducible refine aw_block ?_) | ((first | ((with_reducible refine aw_regionA T_ok ?_ ?_); kernel_rfl) | ((with_reducible refine aw_drawnA T_ok ?_ ?_ ?_ ?_); kernel_rfl; kernel_rfl; (focus (decide +kernel))) | ((with_reducible refine callK_intro (hs) ?_ ?_ ?_); (focus (with_unfolding_all rfl)); kernel_rfl) | (with_reducible refine aw_skip ?_) | ((with_reducible refine aw_condM ?_ ?_); kernel_rfl) ); simp only [↓avP, avQ, avR, forall_const, implies_true, Nat.reduceEqDiff, Nat.reduceAdd, Nat.reduceLeDiff, reduceCtorEq, netD_B, pkD_B, ty_29, ty_63, ty_26, hd2]; try simp (disch := omega) only [av_w, Int.toNat_natCast]))
    refine ⟨k + 1, by omega, by dsimp only; omega, wk_of [(0, some 0), (1, some 1)] rfl rfl ?_ ?_⟩
    · simp only [wkA, reduceIte, Nat.reduceEqDiff]
      (repeat' (first | rfl | exact subVs_d _ _))
    · simp only [wkA, reduceIte, Nat.reduceEqDiff]
      (repeat' (first | rfl | exact subVs_d _ _))
  obtain rfl : k = n.queue.length := by omega
  have hd2 := ged (Nat.le_refl n.queue.length)
  repeat' (first | (with_reducible refine aw_seq ?_) | ((with_reducible refine two_intro ?_ ?_) <;> intro h <;> first | contradiction | (((guard_hyp h : false = false; clear h)))) | (with_reducible refine aw_block ?_) | ((first | ((with_reducible refine aw_regionA T_ok ?_ ?_); kernel_rfl) | (with_reducible refine aw_exit ?_) | ((with_reducible refine aw_condM ?_ ?_); kernel_rfl) | (with_reducible refine aw_ret ?_) ); simp only [↓avP, avQ, avR, forall_const, implies_true, Nat.reduceEqDiff, reduceCtorEq, avS, roomD_B, netD_B, ty_32, ty_29, ty_26, ty_31, ty_25, hd2]; try simp (disch := omega) only [av_w, av_t1, av_tp, Int.toNat_natCast]))
  refine aw_loopI (fun k : Nat => ⟨[(2, .ptr 0 0), (3, .ptr 1 0), (6, vI k)], [(1, .cells 29 (dV (netD n))), (0, .cells 29 (dV (netD n)))], 2⟩) (fun k => k ≤ n.apart.length) (fun k => n.apart.length - k) 0 (Nat.zero_le _) (wk_of [(0, some 0), (1, some 1)] rfl rfl ?_ ?_) ?_
  · simp only [wkA, reduceIte, Nat.reduceEqDiff]
    (repeat' (first | rfl | exact subVs_d _ _))
  · simp only [wkA, reduceIte, Nat.reduceEqDiff]
    (repeat' (first | rfl | exact subVs_d _ _))
  intro k hk
  rcases Nat.lt_or_ge k n.apart.length with hlt | hge
  · have hd3 := ltd hlt
    have hse : ([(n.apart.getD k default).1, (n.apart.getD k default).2] == [(n.apart.getD k default).1, (n.apart.getD k default).2]) = true := by simp
    repeat' (first | (with_reducible refine aw_seq ?_) | ((with_reducible refine two_intro ?_ ?_) <;> intro h <;> first | contradiction | ((first | (guard_hyp h : true = true; clear h) | (guard_hyp h : false = false; clear h)))) | ((with_reducible refine And.intro ?_ ?_); (focus (first | exact eqPair | omega))) | (with_reducible refine aw_block ?_) | ((first | ((with_reducible refine aw_regionA T_ok ?_ ?_); kernel_rfl) | ((with_reducible refine aw_drawnA T_ok ?_ ?_ ?_ ?_); kernel_rfl; kernel_rfl; (focus (decide +kernel))) | (with_reducible refine aw_skip ?_) | ((with_reducible refine aw_condM ?_ ?_); kernel_rfl) ); simp only [↓avP, avQ, avR, forall_const, implies_true, Nat.reduceEqDiff, Nat.reduceAdd, Nat.reduceLeDiff, reduceCtorEq, netD_B, prD_B, ty_29, ty_93, ty_27, hd3]; try simp (disch := omega) only [av_w]))
    refine ⟨k + 1, by omega, by dsimp only; omega, wk_of [(0, some 0), (1, some 1)] rfl rfl ?_ ?_⟩
    · simp only [wkA, reduceIte, Nat.reduceEqDiff]
      (repeat' (first | rfl | exact subVs_d _ _))
    · simp only [wkA, reduceIte, Nat.reduceEqDiff]
      (repeat' (first | rfl | exact subVs_d _ _))
  · obtain rfl : k = n.apart.length := by omega
    have hd3 := ged (Nat.le_refl n.apart.length)
    repeat' (first | (with_reducible refine aw_seq ?_) | ((with_reducible refine two_intro ?_ ?_) <;> intro h <;> first | contradiction | (((guard_hyp h : false = false; clear h)))) | ((first | ((with_reducible refine aw_regionA T_ok ?_ ?_); kernel_rfl) | (with_reducible refine aw_exit ?_) | ((with_reducible refine aw_condM ?_ ?_); kernel_rfl) | (with_reducible refine aw_ret ?_) ); simp only [↓avP, avQ, avR, forall_const, implies_true, Nat.reduceEqDiff, reduceCtorEq, avS, netD_B, ty_29, ty_27, hd3]; try simp (disch := omega) only [av_w, av_t1, av_tp, Int.toNat_natCast]))
    exact Sub.refl _
theorem q54same_spec (r : RoomP) (ho : okRoom r) : Spec Try.prog 10 [aRoom r, aRoom r] (.r1 (aB true)) := by
  have hpl : r.peers.length ≤ 140737488351232 := ho.1
  have hs6 := q06same_spec r.net ho.2.2.1 ho.2.2.2
  rw [netD] at hs6
  have hn1 : ((r.peers.length : Int) != (r.peers.length : Int)) = false := by simp
  refine spec_of T_ok Try.func10 (by dsimp only [Try.f10]) rfl rfl (by simp) fun w F => ?_
  repeat' (first | (with_reducible refine aw_seq ?_) | ((with_reducible refine two_intro ?_ ?_) <;> intro h <;> first | contradiction | (((guard_hyp h : false = false; clear h)))) | (with_reducible refine aw_block ?_) | ((first | ((with_reducible refine aw_regionA T_ok ?_ ?_); kernel_rfl) | ((with_reducible refine callK_intro (hs6) ?_ ?_ ?_); (focus (with_unfolding_all rfl)); kernel_rfl) | (with_reducible refine aw_skip ?_) | ((with_reducible refine aw_condM ?_ ?_); kernel_rfl) ); simp only [↓avP, avQ, avR, forall_const, implies_true, Nat.reduceEqDiff, Nat.reduceAdd, Nat.reduceLeDiff, reduceCtorEq, avS, roomD_B, ty_29, ty_31, ty_25, hn1]; try simp (disch := omega) only [av_w, av_t1, av_tp, Int.toNat_natCast]))
  refine aw_loopI (fun k : Nat => ⟨[(2, .ptr 0 0), (3, .ptr 1 0), (5, vI k)], [(1, .cells 31 (dV (roomD r))), (0, .cells 31 (dV (roomD r)))], 2⟩) (fun k => k ≤ r.peers.length) (fun k => r.peers.length - k) 0 (Nat.zero_le _) (wk_of [(0, some 0), (1, some 1)] rfl rfl ?_ ?_) ?_
  · simp only [wkA, reduceIte, Nat.reduceEqDiff]
    (repeat' (first | rfl | exact subVs_d _ _))
  · simp only [wkA, reduceIte, Nat.reduceEqDiff]
    (repeat' (first | rfl | exact subVs_d _ _))
  intro k hk
  rcases Nat.lt_or_ge k r.peers.length with hlt | hge
  · have hd2 := ltd hlt
    have hg := getD_peers r.peers k hlt
    have hm : r.peers.getD k [] ∈ r.peers := mem_getD hlt
    have hs := q54sameHands_spec (r.peers.getD k []) (ho.2.1 _ hm).1
    repeat' (first | (with_reducible refine aw_seq ?_) | ((with_reducible refine two_intro ?_ ?_) <;> intro h <;> first | contradiction | ((first | (guard_hyp h : true = true; clear h) | (guard_hyp h : false = false; clear h)))) | ((with_reducible refine And.intro ?_ ?_); (focus (omega))) | (with_reducible refine aw_block ?_) | ((first | ((with_reducible refine aw_regionA T_ok ?_ ?_); kernel_rfl) | ((with_reducible refine aw_drawnA T_ok ?_ ?_ ?_ ?_); kernel_rfl; kernel_rfl; (focus (decide +kernel))) | ((with_reducible refine callK_intro (hs) ?_ ?_ ?_); (focus (with_unfolding_all rfl)); kernel_rfl) | (with_reducible refine aw_skip ?_) | ((with_reducible refine aw_condM ?_ ?_); kernel_rfl) ); simp only [↓avP, avQ, avR, forall_const, implies_true, Nat.reduceEqDiff, Nat.reduceAdd, reduceCtorEq, roomD_B, ty_32, ty_31, ty_25, ty_55, hd2, hg]; try simp (disch := omega) only [av_w, Int.toNat_natCast]))
    refine ⟨k + 1, by omega, by dsimp only; omega, wk_of [(0, some 0), (1, some 1)] rfl rfl ?_ ?_⟩
    · simp only [wkA, reduceIte, Nat.reduceEqDiff]
      (repeat' (first | rfl | exact subVs_d _ _))
    · simp only [wkA, reduceIte, Nat.reduceEqDiff]
      (repeat' (first | rfl | exact subVs_d _ _))
  · obtain rfl : k = r.peers.length := by omega
    have hd2 := ged (Nat.le_refl r.peers.length)
    repeat' (first | (with_reducible refine aw_seq ?_) | ((with_reducible refine two_intro ?_ ?_) <;> intro h <;> first | contradiction | (((guard_hyp h : false = false; clear h)))) | (with_reducible refine aw_block ?_) | ((first | ((with_reducible refine aw_regionA T_ok ?_ ?_); kernel_rfl) | (with_reducible refine aw_exit ?_) | ((with_reducible refine aw_condM ?_ ?_); kernel_rfl) | (with_reducible refine aw_ret ?_) ); simp only [↓avP, avQ, avR, forall_const, implies_true, Nat.reduceEqDiff, reduceCtorEq, avS, roomD_B, netD_B, ty_32, ty_29, ty_26, ty_31, ty_25, hd2]; try simp (disch := omega) only [av_w, av_t1, av_tp, Int.toNat_natCast]))
    exact Sub.refl _
end Go.Proofs.Ythidfoohhhkobaa

