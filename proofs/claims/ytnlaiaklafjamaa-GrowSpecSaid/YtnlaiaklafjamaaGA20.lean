import Derived.Test.YtnlaiaklafjamaaGA19
import Derived.Test.YtnlaiaklafjamaaGA18
namespace Go.Proofs.Ytnlaiaklafjamaa
set_option linter.unusedSimpArgs false
set_option linter.unusedVariables false
open Go.RowKit
set_option maxRecDepth 100000
set_option maxHeartbeats 8000000
theorem gb_app (g : FlowP) (d : D) : dV (flowD g) ++ [V.d d] = dV (flowD g ++ [d]) := rfl
theorem gb_t2 (g : FlowP) (d : D) : List.take 2 (dV (flowD g ++ [d])) = dV (flowD g) := rfl
theorem gb_len (g : FlowP) (d : D) : (dV (flowD g ++ [d])).length = 3 := rfl
theorem gb_one : allOne (Value.agg #[Value.int IntKind.i64 0, Value.slice none 0 0, Value.slice none 0 0]) = true := rfl
theorem gb_d3 (g : FlowP) (d : D) : List.drop 3 (dV (flowD g ++ [d])) = [] := rfl
theorem qgstart_spec (n : Int) (hn : -9223372036854775808 ≤ n ∧ n ≤ 9223372036854775807) : Spec Try.prog 11 [aI n] (.rt [.agg (seenD (startR n)), aI (startE n)]) := by
  refine spec_of T_ok Try.func11 (by dsimp only [Try.f11]) rfl rfl (by simp) fun w F => ?_
  have hM : Spec Try.prog 25 [xN n] (.rt [aIss (matR ⟨n, []⟩), aI (startE n)]) := (qwmatrix_spec _ (okF_none hn)).args ⟨sN n, trivial⟩
  by_cases hc : startE n = 0
  · have hd : (startE n != 0) = false := by simpa using hc
    repeat' (first
      | (with_reducible refine aw_seq ?_)
      | ((with_reducible refine twoG_intro ?_ ?_) <;> intro hTw <;> first | (exact Bool.noConfusion hTw) | ((try simp only [hTw, Bool.not_true, Bool.not_false, Bool.true_and, Bool.false_and, Bool.and_true, Bool.and_false, Bool.true_or, Bool.false_or, Bool.or_true, Bool.or_false]); (first | (guard_hyp hTw : true = true; clear hTw) | (guard_hyp hTw : false = false; clear hTw) | (revert hTw; intro _))))
      | ((with_reducible refine two_intro ?_ ?_) <;> intro hTw <;> first | (exact Bool.noConfusion hTw) | ((first | (guard_hyp hTw : true = true; clear hTw) | (guard_hyp hTw : false = false; clear hTw) | (revert hTw; intro _))))
      | ((with_reducible refine And.intro ?_ ?_); (focus (first | omega | rfl | decide | grind)))
      | (with_reducible refine aw_block ?_)
      | (with_reducible refine aw_scope ?_)
      | ((first
          | ((with_reducible refine aw_regionA T_ok ?_ ?_); (focus kernel_rfl))
          | ((with_reducible refine aw_drawnA T_ok ?_ ?_ ?_ ?_); (focus kernel_rfl); (focus kernel_rfl); (focus (decide +kernel)))
          | ((with_reducible refine aw_drawnF T_ok ?_ ?_ ?_ ?_); (focus kernel_rfl); (focus kernel_rfl); (focus (decide +kernel)))
          | ((with_reducible refine aw_drawnC T_ok ?_ ?_ ?_ ?_); (focus kernel_rfl); (focus kernel_rfl); (focus (decide +kernel)))
          | ((with_reducible refine callK_intro (hM) (by with_unfolding_all rfl) ?_ ?_); (focus kernel_rfl))
          | ((with_reducible refine callI_spec (hM) (by with_unfolding_all rfl) ?_ ?_ ?_); (focus kernel_rfl); (focus kernel_rfl))
          | (with_reducible refine aw_label ?_)
          | ((with_reducible refine aw_rfM ?_ ?_); (focus kernel_rfl))
          | (with_reducible refine aw_skip ?_)
          | (with_reducible refine aw_exit ?_)
          | ((with_reducible refine aw_condM ?_ ?_); (focus kernel_rfl))
          | (with_reducible refine aw_ret ?_)
        ); simp only [↓avP, avQ, if_true, if_false, forall_const, beq_self_eq_true, eq_self, ne_eq, implies_true, reduceIte, Nat.reduceEqDiff, Nat.reduceAdd, Nat.reduceSub, Int.reduceToNat, Nat.reduceLeDiff, Nat.reduceLT, reduceCtorEq, Int.reduceEq, ↓hwpC.eq_def, ↓hopC.eq_def, ↓apKH.eq_def, ↓apH.eq_def, rqOk, lkC, delO, takes, whoMakes, headC, tailC, isTC, Option.some.injEq, Nat.zero_le, Nat.sub_zero, retQ, retL, resV, RetV, RetOk, SubL, intD_B, lotD_B, flowD_B, seenD_B, snocI, snocL, seen_take2, seen_take1, gfl_t1, gfl_d2, gb_app, gb_t2, gb_d3, gb_len, gb_one, ty_3, ty_28, ty_4, ty_24, ty_30, ty_22, ty_25, ty_27, issD_get, hd]; try simp (disch := omega) only [av_w, av_t1, av_tp, Int.toNat_natCast]))
    rw [startR, if_pos hc, hc]
    exact ⟨Sub.aggL ⟨SubD.refl _, sub_nil, SubD.refl _, trivial⟩, Sub.refl _⟩
  · have hd : (startE n != 0) = true := by simpa using hc
    repeat' (first
      | (with_reducible refine aw_seq ?_)
      | ((with_reducible refine twoG_intro ?_ ?_) <;> intro hTw <;> first | (exact Bool.noConfusion hTw) | ((try simp only [hTw, Bool.not_true, Bool.not_false, Bool.true_and, Bool.false_and, Bool.and_true, Bool.and_false, Bool.true_or, Bool.false_or, Bool.or_true, Bool.or_false]); (first | (guard_hyp hTw : true = true; clear hTw) | (guard_hyp hTw : false = false; clear hTw) | (revert hTw; intro _))))
      | ((with_reducible refine two_intro ?_ ?_) <;> intro hTw <;> first | (exact Bool.noConfusion hTw) | ((first | (guard_hyp hTw : true = true; clear hTw) | (guard_hyp hTw : false = false; clear hTw) | (revert hTw; intro _))))
      | ((with_reducible refine And.intro ?_ ?_); (focus (first | omega | rfl | decide | grind)))
      | (with_reducible refine aw_block ?_)
      | (with_reducible refine aw_scope ?_)
      | ((first
          | ((with_reducible refine aw_regionA T_ok ?_ ?_); (focus kernel_rfl))
          | ((with_reducible refine aw_drawnA T_ok ?_ ?_ ?_ ?_); (focus kernel_rfl); (focus kernel_rfl); (focus (decide +kernel)))
          | ((with_reducible refine aw_drawnF T_ok ?_ ?_ ?_ ?_); (focus kernel_rfl); (focus kernel_rfl); (focus (decide +kernel)))
          | ((with_reducible refine aw_drawnC T_ok ?_ ?_ ?_ ?_); (focus kernel_rfl); (focus kernel_rfl); (focus (decide +kernel)))
          | ((with_reducible refine callK_intro (hM) (by with_unfolding_all rfl) ?_ ?_); (focus kernel_rfl))
          | ((with_reducible refine callI_spec (hM) (by with_unfolding_all rfl) ?_ ?_ ?_); (focus kernel_rfl); (focus kernel_rfl))
          | (with_reducible refine aw_label ?_)
          | ((with_reducible refine aw_rfM ?_ ?_); (focus kernel_rfl))
          | (with_reducible refine aw_skip ?_)
          | (with_reducible refine aw_exit ?_)
          | ((with_reducible refine aw_condM ?_ ?_); (focus kernel_rfl))
          | (with_reducible refine aw_ret ?_)
        ); simp only [↓avP, avQ, if_true, if_false, forall_const, beq_self_eq_true, eq_self, ne_eq, implies_true, reduceIte, Nat.reduceEqDiff, Nat.reduceAdd, Nat.reduceSub, Int.reduceToNat, Nat.reduceLeDiff, Nat.reduceLT, reduceCtorEq, Int.reduceEq, ↓hwpC.eq_def, ↓hopC.eq_def, ↓apKH.eq_def, ↓apH.eq_def, rqOk, lkC, delO, takes, whoMakes, headC, tailC, isTC, Option.some.injEq, Nat.zero_le, Nat.sub_zero, retQ, retL, resV, RetV, RetOk, SubL, intD_B, lotD_B, flowD_B, seenD_B, snocI, snocL, seen_take2, seen_take1, gfl_t1, gfl_d2, gb_app, gb_t2, gb_d3, gb_len, gb_one, ty_3, ty_28, ty_4, ty_24, ty_30, ty_22, ty_25, ty_27, issD_get, hd]; try simp (disch := omega) only [av_w, av_t1, av_tp, Int.toNat_natCast]))
    rw [startR, if_neg hc]
    exact ⟨sub_seen0, Sub.refl _⟩
theorem qgwith_spec (f : FlowP) (x : LotP) (hl : f.lots.length ≤ 1000000) : Spec Try.prog 16 [.agg (flowD f), .agg (lotD x)] (.r1 (.agg (flowD (moreF f x)))) := by
  refine spec_of T_ok Try.func16 (by dsimp only [Try.f16]) rfl rfl (by simp) fun w F => ?_
  repeat' (first
    | (with_reducible refine aw_seq ?_)
    | ((with_reducible refine twoG_intro ?_ ?_) <;> intro hTw <;> first | (exact Bool.noConfusion hTw) | ((try simp only [hTw, Bool.not_true, Bool.not_false, Bool.true_and, Bool.false_and, Bool.and_true, Bool.and_false, Bool.true_or, Bool.false_or, Bool.or_true, Bool.or_false]); (first | (guard_hyp hTw : true = true; clear hTw) | (guard_hyp hTw : false = false; clear hTw) | (revert hTw; intro _))))
    | ((with_reducible refine two_intro ?_ ?_) <;> intro hTw <;> first | (exact Bool.noConfusion hTw) | ((first | (guard_hyp hTw : true = true; clear hTw) | (guard_hyp hTw : false = false; clear hTw) | (revert hTw; intro _))))
    | ((with_reducible refine And.intro ?_ ?_); (focus (first | omega | rfl | decide | grind)))
    | (with_reducible refine aw_block ?_)
    | (with_reducible refine aw_scope ?_)
    | ((first
        | ((with_reducible refine aw_regionA T_ok ?_ ?_); (focus kernel_rfl))
        | ((with_reducible refine aw_drawnA T_ok ?_ ?_ ?_ ?_); (focus kernel_rfl); (focus kernel_rfl); (focus (decide +kernel)))
        | ((with_reducible refine aw_drawnF T_ok ?_ ?_ ?_ ?_); (focus kernel_rfl); (focus kernel_rfl); (focus (decide +kernel)))
        | ((with_reducible refine aw_drawnC T_ok ?_ ?_ ?_ ?_); (focus kernel_rfl); (focus kernel_rfl); (focus (decide +kernel)))
        | (with_reducible refine aw_label ?_)
        | ((with_reducible refine aw_rfM ?_ ?_); (focus kernel_rfl))
        | (with_reducible refine aw_skip ?_)
        | (with_reducible refine aw_exit ?_)
        | ((with_reducible refine aw_condM ?_ ?_); (focus kernel_rfl))
        | (with_reducible refine aw_ret ?_)
      ); simp only [↓avP, avQ, if_true, if_false, forall_const, beq_self_eq_true, eq_self, ne_eq, implies_true, reduceIte, Nat.reduceEqDiff, Nat.reduceAdd, Nat.reduceSub, Int.reduceToNat, Nat.reduceLeDiff, Nat.reduceLT, reduceCtorEq, Int.reduceEq, ↓hwpC.eq_def, ↓hopC.eq_def, ↓apKH.eq_def, ↓apH.eq_def, rqOk, lkC, delO, takes, whoMakes, headC, tailC, isTC, Option.some.injEq, Nat.zero_le, Nat.sub_zero, retQ, retL, resV, RetV, RetOk, SubL, intD_B, lotD_B, flowD_B, seenD_B, snocI, snocL, seen_take2, seen_take1, gfl_t1, gfl_d2, gb_app, gb_t2, gb_d3, gb_len, gb_one, ty_3, ty_28, ty_4, ty_24, ty_30, ty_22, ty_25, ty_27, issD_get]; try simp (disch := omega) only [av_w, av_t1, av_tp, Int.toNat_natCast]))
  exact Sub.aggL ⟨SubD.refl _, SubD.of _ _ ⟨rfl, rfl⟩, trivial⟩
theorem qgadd_spec (s : SeenP) (x : LotP) (hs : OkS s) (hx : OkL x) : Spec Try.prog 13 [.agg (seenD s), .agg (lotD x)] (.rt [.agg (seenD (addG s x)), aIs (addC s x), aI (addE s x)]) := by
  refine spec_of T_ok Try.func13 (by dsimp only [Try.f13]) rfl rfl (by simp) fun w F => ?_
  obtain ⟨f, R⟩ := s
  obtain ⟨hf, hr, hrs⟩ := hs
  dsimp only at hf hr hrs
  have hM := qwmatrix_spec f hf
  by_cases hc : checkF f = 0
  rotate_left
  · have hd : (checkF f != 0) = true := by simpa using hc
    repeat' (first
      | (with_reducible refine aw_seq ?_)
      | ((with_reducible refine twoG_intro ?_ ?_) <;> intro hTw <;> first | (exact Bool.noConfusion hTw) | ((try simp only [hTw, Bool.not_true, Bool.not_false, Bool.true_and, Bool.false_and, Bool.and_true, Bool.and_false, Bool.true_or, Bool.false_or, Bool.or_true, Bool.or_false]); (first | (guard_hyp hTw : true = true; clear hTw) | (guard_hyp hTw : false = false; clear hTw) | (revert hTw; intro _))))
      | ((with_reducible refine two_intro ?_ ?_) <;> intro hTw <;> first | (exact Bool.noConfusion hTw) | ((first | (guard_hyp hTw : true = true; clear hTw) | (guard_hyp hTw : false = false; clear hTw) | (revert hTw; intro _))))
      | ((with_reducible refine And.intro ?_ ?_); (focus (first | omega | rfl | decide | grind)))
      | (with_reducible refine aw_block ?_)
      | (with_reducible refine aw_scope ?_)
      | ((first
          | ((with_reducible refine aw_regionA T_ok ?_ ?_); (focus kernel_rfl))
          | ((with_reducible refine aw_drawnA T_ok ?_ ?_ ?_ ?_); (focus kernel_rfl); (focus kernel_rfl); (focus (decide +kernel)))
          | ((with_reducible refine aw_drawnF T_ok ?_ ?_ ?_ ?_); (focus kernel_rfl); (focus kernel_rfl); (focus (decide +kernel)))
          | ((with_reducible refine aw_drawnC T_ok ?_ ?_ ?_ ?_); (focus kernel_rfl); (focus kernel_rfl); (focus (decide +kernel)))
          | ((with_reducible refine callK_intro (hM) (by with_unfolding_all rfl) ?_ ?_); (focus kernel_rfl))
          | ((with_reducible refine callI_spec (hM) (by with_unfolding_all rfl) ?_ ?_ ?_); (focus kernel_rfl); (focus kernel_rfl))
          | (with_reducible refine aw_label ?_)
          | ((with_reducible refine aw_rfM ?_ ?_); (focus kernel_rfl))
          | (with_reducible refine aw_skip ?_)
          | (with_reducible refine aw_exit ?_)
          | ((with_reducible refine aw_condM ?_ ?_); (focus kernel_rfl))
          | (with_reducible refine aw_ret ?_)
        ); simp only [↓avP, avQ, if_true, if_false, forall_const, beq_self_eq_true, eq_self, ne_eq, implies_true, reduceIte, Nat.reduceEqDiff, Nat.reduceAdd, Nat.reduceSub, Int.reduceToNat, Nat.reduceLeDiff, Nat.reduceLT, reduceCtorEq, Int.reduceEq, ↓hwpC.eq_def, ↓hopC.eq_def, ↓apKH.eq_def, ↓apH.eq_def, rqOk, lkC, delO, takes, whoMakes, headC, tailC, isTC, Option.some.injEq, Nat.zero_le, Nat.sub_zero, retQ, retL, resV, RetV, RetOk, SubL, intD_B, lotD_B, flowD_B, seenD_B, snocI, snocL, seen_take2, seen_take1, gfl_t1, gfl_d2, gb_app, gb_t2, gb_d3, gb_len, gb_one, ty_3, ty_28, ty_4, ty_24, ty_30, ty_22, ty_25, ty_27, issD_get, hd]; try simp (disch := omega) only [av_w, av_t1, av_tp, Int.toNat_natCast]))
    have he : addE ⟨f, R⟩ x = checkF f := by rw [addE, if_pos hc]
    rw [addG, addC, he, if_neg hc, if_neg hc]
    exact ⟨sub_seen0, Sub.nil _ _, Sub.refl _⟩
  have hd : (checkF f != 0) = false := by simpa using hc
  have hEq := qwsame_spec (matR f) R (fun k => by have := matR_at f k; omega) (by have := matR_len f; omega) hr
  by_cases hR : matR f = R
  rotate_left
  · have hd2 : decide (matR f = R) = false := decide_eq_false hR
    repeat' (first
      | (with_reducible refine aw_seq ?_)
      | ((with_reducible refine twoG_intro ?_ ?_) <;> intro hTw <;> first | (exact Bool.noConfusion hTw) | ((try simp only [hTw, Bool.not_true, Bool.not_false, Bool.true_and, Bool.false_and, Bool.and_true, Bool.and_false, Bool.true_or, Bool.false_or, Bool.or_true, Bool.or_false]); (first | (guard_hyp hTw : true = true; clear hTw) | (guard_hyp hTw : false = false; clear hTw) | (revert hTw; intro _))))
      | ((with_reducible refine two_intro ?_ ?_) <;> intro hTw <;> first | (exact Bool.noConfusion hTw) | ((first | (guard_hyp hTw : true = true; clear hTw) | (guard_hyp hTw : false = false; clear hTw) | (revert hTw; intro _))))
      | ((with_reducible refine And.intro ?_ ?_); (focus (first | omega | rfl | decide | grind)))
      | (with_reducible refine aw_block ?_)
      | (with_reducible refine aw_scope ?_)
      | ((first
          | ((with_reducible refine aw_regionA T_ok ?_ ?_); (focus kernel_rfl))
          | ((with_reducible refine aw_drawnA T_ok ?_ ?_ ?_ ?_); (focus kernel_rfl); (focus kernel_rfl); (focus (decide +kernel)))
          | ((with_reducible refine aw_drawnF T_ok ?_ ?_ ?_ ?_); (focus kernel_rfl); (focus kernel_rfl); (focus (decide +kernel)))
          | ((with_reducible refine aw_drawnC T_ok ?_ ?_ ?_ ?_); (focus kernel_rfl); (focus kernel_rfl); (focus (decide +kernel)))
          | ((with_reducible refine callK_intro (hM) (by with_unfolding_all rfl) ?_ ?_); (focus kernel_rfl))
          | ((with_reducible refine callI_spec (hM) (by with_unfolding_all rfl) ?_ ?_ ?_); (focus kernel_rfl); (focus kernel_rfl))
          | ((with_reducible refine callK_intro (hEq) (by with_unfolding_all rfl) ?_ ?_); (focus kernel_rfl))
          | ((with_reducible refine callI_spec (hEq) (by with_unfolding_all rfl) ?_ ?_ ?_); (focus kernel_rfl); (focus kernel_rfl))
          | (with_reducible refine aw_label ?_)
          | ((with_reducible refine aw_rfM ?_ ?_); (focus kernel_rfl))
          | (with_reducible refine aw_skip ?_)
          | (with_reducible refine aw_exit ?_)
          | ((with_reducible refine aw_condM ?_ ?_); (focus kernel_rfl))
          | (with_reducible refine aw_ret ?_)
        ); simp only [↓avP, avQ, if_true, if_false, forall_const, beq_self_eq_true, eq_self, ne_eq, implies_true, reduceIte, Nat.reduceEqDiff, Nat.reduceAdd, Nat.reduceSub, Int.reduceToNat, Nat.reduceLeDiff, Nat.reduceLT, reduceCtorEq, Int.reduceEq, ↓hwpC.eq_def, ↓hopC.eq_def, ↓apKH.eq_def, ↓apH.eq_def, rqOk, lkC, delO, takes, whoMakes, headC, tailC, isTC, Option.some.injEq, Nat.zero_le, Nat.sub_zero, retQ, retL, resV, RetV, RetOk, SubL, intD_B, lotD_B, flowD_B, seenD_B, snocI, snocL, seen_take2, seen_take1, gfl_t1, gfl_d2, gb_app, gb_t2, gb_d3, gb_len, gb_one, ty_3, ty_28, ty_4, ty_24, ty_30, ty_22, ty_25, ty_27, issD_get, hd, hd2]; try simp (disch := omega) only [av_w, av_t1, av_tp, Int.toNat_natCast]))
    have he : addE ⟨f, R⟩ x = 250 := by rw [addE, if_neg (by simpa using hc), if_neg hR]
    rw [addG, addC, he, if_neg (by decide), if_neg (by decide)]
    exact ⟨sub_seen0, Sub.nil _ _, Sub.refl _⟩
  have hd2 : decide (matR f = R) = true := decide_eq_true hR
  have he : addE ⟨f, R⟩ x = checkF (moreF f x) := by rw [addE, if_neg (by simpa using hc), if_pos hR]
  obtain ⟨z1, z2, z3, z4, z5⟩ := checkF_zero hc
  have hom : OkF (moreF f x) := hf.more hx (by omega)
  have hW := qgwith_spec f x (by omega)
  have hM2 := qwmatrix_spec (moreF f x) hom
  by_cases hcm : checkF (moreF f x) = 0
  rotate_left
  · have hd3 : (checkF (moreF f x) != 0) = true := by simpa using hcm
    repeat' (first
      | (with_reducible refine aw_seq ?_)
      | ((with_reducible refine twoG_intro ?_ ?_) <;> intro hTw <;> first | (exact Bool.noConfusion hTw) | ((try simp only [hTw, Bool.not_true, Bool.not_false, Bool.true_and, Bool.false_and, Bool.and_true, Bool.and_false, Bool.true_or, Bool.false_or, Bool.or_true, Bool.or_false]); (first | (guard_hyp hTw : true = true; clear hTw) | (guard_hyp hTw : false = false; clear hTw) | (revert hTw; intro _))))
      | ((with_reducible refine two_intro ?_ ?_) <;> intro hTw <;> first | (exact Bool.noConfusion hTw) | ((first | (guard_hyp hTw : true = true; clear hTw) | (guard_hyp hTw : false = false; clear hTw) | (revert hTw; intro _))))
      | ((with_reducible refine And.intro ?_ ?_); (focus (first | omega | rfl | decide | grind)))
      | (with_reducible refine aw_block ?_)
      | (with_reducible refine aw_scope ?_)
      | ((first
          | ((with_reducible refine aw_regionA T_ok ?_ ?_); (focus kernel_rfl))
          | ((with_reducible refine aw_drawnA T_ok ?_ ?_ ?_ ?_); (focus kernel_rfl); (focus kernel_rfl); (focus (decide +kernel)))
          | ((with_reducible refine aw_drawnF T_ok ?_ ?_ ?_ ?_); (focus kernel_rfl); (focus kernel_rfl); (focus (decide +kernel)))
          | ((with_reducible refine aw_drawnC T_ok ?_ ?_ ?_ ?_); (focus kernel_rfl); (focus kernel_rfl); (focus (decide +kernel)))
          | ((with_reducible refine callK_intro (hM) (by with_unfolding_all rfl) ?_ ?_); (focus kernel_rfl))
          | ((with_reducible refine callI_spec (hM) (by with_unfolding_all rfl) ?_ ?_ ?_); (focus kernel_rfl); (focus kernel_rfl))
          | ((with_reducible refine callK_intro (hEq) (by with_unfolding_all rfl) ?_ ?_); (focus kernel_rfl))
          | ((with_reducible refine callI_spec (hEq) (by with_unfolding_all rfl) ?_ ?_ ?_); (focus kernel_rfl); (focus kernel_rfl))
          | ((with_reducible refine callK_intro (hW) (by with_unfolding_all rfl) ?_ ?_); (focus kernel_rfl))
          | ((with_reducible refine callI_spec (hW) (by with_unfolding_all rfl) ?_ ?_ ?_); (focus kernel_rfl); (focus kernel_rfl))
          | ((with_reducible refine callK_intro (hM2) (by with_unfolding_all rfl) ?_ ?_); (focus kernel_rfl))
          | ((with_reducible refine callI_spec (hM2) (by with_unfolding_all rfl) ?_ ?_ ?_); (focus kernel_rfl); (focus kernel_rfl))
          | (with_reducible refine aw_label ?_)
          | ((with_reducible refine aw_rfM ?_ ?_); (focus kernel_rfl))
          | (with_reducible refine aw_skip ?_)
          | (with_reducible refine aw_exit ?_)
          | ((with_reducible refine aw_condM ?_ ?_); (focus kernel_rfl))
          | (with_reducible refine aw_ret ?_)
        ); simp only [↓avP, avQ, if_true, if_false, forall_const, beq_self_eq_true, eq_self, ne_eq, implies_true, reduceIte, Nat.reduceEqDiff, Nat.reduceAdd, Nat.reduceSub, Int.reduceToNat, Nat.reduceLeDiff, Nat.reduceLT, reduceCtorEq, Int.reduceEq, ↓hwpC.eq_def, ↓hopC.eq_def, ↓apKH.eq_def, ↓apH.eq_def, rqOk, lkC, delO, takes, whoMakes, headC, tailC, isTC, Option.some.injEq, Nat.zero_le, Nat.sub_zero, retQ, retL, resV, RetV, RetOk, SubL, intD_B, lotD_B, flowD_B, seenD_B, snocI, snocL, seen_take2, seen_take1, gfl_t1, gfl_d2, gb_app, gb_t2, gb_d3, gb_len, gb_one, ty_3, ty_28, ty_4, ty_24, ty_30, ty_22, ty_25, ty_27, issD_get, hd, hd2, hd3]; try simp (disch := omega) only [av_w, av_t1, av_tp, Int.toNat_natCast]))
    rw [addG, addC, he, if_neg hcm, if_neg hcm]
    exact ⟨sub_seen0, Sub.nil _ _, Sub.refl _⟩
  obtain ⟨N, hN⟩ : ∃ N : Nat, f.senders = N := ⟨f.senders.toNat, by omega⟩
  have hRA : R = matA f N := by rw [← hR, matR, if_pos hc, hN]; rfl
  have hGA : matR (moreF f x) = matA (moreF f x) N := by
    rw [matR, if_pos hcm]
    show matA _ f.senders.toNat = _
    rw [hN]; rfl
  have hAE : addE ⟨f, R⟩ x = 0 := he.trans hcm
  have hcc : addC ⟨f, R⟩ x = chgL f x N := by
    rw [addC, if_pos hAE]
    show chgL f x f.senders.toNat = _
    rw [hN]; rfl
  have hlR : R.length = N := by rw [hRA]; exact matA_len f N
  have hlG : (matA (moreF f x) N).length = N := matA_len _ _
  have hget : ∀ {i : Nat}, i < N → (matA (moreF f x) N).getD i [] = endS (moreF f x) i ∧ R.getD i [] = endS f i := fun {i} h => ⟨matA_get h, by rw [hRA]; exact matA_get h⟩
  rw [hR, hc] at hM
  rw [hR] at hEq hd2
  rw [hGA, hcm] at hM2
  rw [addG, if_pos hAE, hcc, hAE, hGA]
  obtain ⟨G, hG⟩ : ∃ G, G = matA (moreF f x) N := ⟨_, rfl⟩
  rw [← hG] at hM2 hlG ⊢
  simp only [← hG] at hget
  repeat' (first
    | (with_reducible refine aw_seq ?_)
    | ((with_reducible refine twoG_intro ?_ ?_) <;> intro hTw <;> first | (exact Bool.noConfusion hTw) | ((try simp only [hTw, Bool.not_true, Bool.not_false, Bool.true_and, Bool.false_and, Bool.and_true, Bool.and_false, Bool.true_or, Bool.false_or, Bool.or_true, Bool.or_false]); (first | (guard_hyp hTw : true = true; clear hTw) | (guard_hyp hTw : false = false; clear hTw) | (revert hTw; intro _))))
    | ((with_reducible refine two_intro ?_ ?_) <;> intro hTw <;> first | (exact Bool.noConfusion hTw) | ((first | (guard_hyp hTw : true = true; clear hTw) | (guard_hyp hTw : false = false; clear hTw) | (revert hTw; intro _))))
    | ((with_reducible refine And.intro ?_ ?_); (focus (first | omega | rfl | decide | grind)))
    | (with_reducible refine aw_block ?_)
    | (with_reducible refine aw_scope ?_)
    | ((first
        | ((with_reducible refine aw_regionA T_ok ?_ ?_); (focus kernel_rfl))
        | ((with_reducible refine aw_drawnA T_ok ?_ ?_ ?_ ?_); (focus kernel_rfl); (focus kernel_rfl); (focus (decide +kernel)))
        | ((with_reducible refine aw_drawnF T_ok ?_ ?_ ?_ ?_); (focus kernel_rfl); (focus kernel_rfl); (focus (decide +kernel)))
        | ((with_reducible refine aw_drawnC T_ok ?_ ?_ ?_ ?_); (focus kernel_rfl); (focus kernel_rfl); (focus (decide +kernel)))
        | ((with_reducible refine callK_intro (hM) (by with_unfolding_all rfl) ?_ ?_); (focus kernel_rfl))
        | ((with_reducible refine callI_spec (hM) (by with_unfolding_all rfl) ?_ ?_ ?_); (focus kernel_rfl); (focus kernel_rfl))
        | ((with_reducible refine callK_intro (hEq) (by with_unfolding_all rfl) ?_ ?_); (focus kernel_rfl))
        | ((with_reducible refine callI_spec (hEq) (by with_unfolding_all rfl) ?_ ?_ ?_); (focus kernel_rfl); (focus kernel_rfl))
        | ((with_reducible refine callK_intro (hW) (by with_unfolding_all rfl) ?_ ?_); (focus kernel_rfl))
        | ((with_reducible refine callI_spec (hW) (by with_unfolding_all rfl) ?_ ?_ ?_); (focus kernel_rfl); (focus kernel_rfl))
        | ((with_reducible refine callK_intro (hM2) (by with_unfolding_all rfl) ?_ ?_); (focus kernel_rfl))
        | ((with_reducible refine callI_spec (hM2) (by with_unfolding_all rfl) ?_ ?_ ?_); (focus kernel_rfl); (focus kernel_rfl))
        | (with_reducible refine aw_label ?_)
        | ((with_reducible refine aw_rfM ?_ ?_); (focus kernel_rfl))
        | (with_reducible refine aw_skip ?_)
        | (with_reducible refine aw_exit ?_)
        | ((with_reducible refine aw_condM ?_ ?_); (focus kernel_rfl))
        | (with_reducible refine aw_ret ?_)
      ); simp only [↓avP, avQ, if_true, if_false, forall_const, beq_self_eq_true, eq_self, ne_eq, implies_true, reduceIte, Nat.reduceEqDiff, Nat.reduceAdd, Nat.reduceSub, Int.reduceToNat, Nat.reduceLeDiff, Nat.reduceLT, reduceCtorEq, Int.reduceEq, ↓hwpC.eq_def, ↓hopC.eq_def, ↓apKH.eq_def, ↓apH.eq_def, rqOk, lkC, delO, takes, whoMakes, headC, tailC, isTC, Option.some.injEq, Nat.zero_le, Nat.sub_zero, retQ, retL, resV, RetV, RetOk, SubL, intD_B, lotD_B, flowD_B, seenD_B, snocI, snocL, seen_take2, seen_take1, gfl_t1, gfl_d2, gb_app, gb_t2, gb_d3, gb_len, gb_one, ty_3, ty_28, ty_4, ty_24, ty_30, ty_22, ty_25, ty_27, issD_get, hd2]; try simp (disch := omega) only [av_w, av_t1, av_tp, Int.toNat_natCast]))
  refine aw_loopI (fun i : Nat => ⟨[(4, .ptr 0 0), (7, vIss R), (9, .ptr 1 0), (10, vIss G), (12, .ow 2 1 (intD 0) ((chgL f x i).map intD)), (13, vI i)], [(2, .tok 3 1 (chgL f x i).length), (1, .cells 24 (dV (flowD (moreF f x)))), (0, .cells 27 [vI 0, .d (.c (.slice none 0 0)), .d (.c (.slice none 0 0))])], 3⟩)
    (fun i => i ≤ N) (fun i => N - i) 0 (Nat.zero_le _) (wk_of [(0, some 2), (1, some 3), (2, some 4)] rfl rfl ?_ ?_) ?_
  · simp only [wkT, wkB, wkB1, subV, subVs, subD, subB, lkN_n, lkN_c, lkT_n, lkT_c, lkB_n, lkB_c, if_true, if_false, reduceIte, Nat.reduceEqDiff, true_and, and_true, and_self, inT, ofA]
    (repeat' (first | exact trivial | rfl | exact rfl | exact subVs_d _ _ | exact subVs_dm _ _ | exact subD_refl _ | refine And.intro ?_ ?_))
  · simp only [wkT, wkB, wkB1, subV, subVs, subD, subB, lkN_n, lkN_c, lkT_n, lkT_c, lkB_n, lkB_c, if_true, if_false, reduceIte, Nat.reduceEqDiff, true_and, and_true, and_self, inT, ofA]
    (repeat' (first | exact trivial | rfl | exact rfl | exact subVs_d _ _ | exact subVs_dm _ _ | exact subD_refl _ | refine And.intro ?_ ?_))
  intro i hi
  have hcl := chgL_len f x i
  have hcs := chgL_succ f x i
  rcases Nat.lt_or_ge i N with hlt | hge
  · have hd4 : decide ((i : Int) < (N : Int)) = true := ltd hlt
    obtain ⟨g1, g2⟩ := hget hlt
    have hsm := someM_iff hcm (s := i) (by omega)
    have hsi := sameInts_spec (endS (moreF f x) i) (endS f i) (by have := endS_len hcm (i : Int); omega)
    obtain ⟨CL, hCL⟩ : ∃ c, c = chgL f x i := ⟨_, rfl⟩
    rw [← hCL] at hcl hcs ⊢
    obtain ⟨A1, hA1⟩ : ∃ a, a = endS (moreF f x) i := ⟨_, rfl⟩
    obtain ⟨A2, hA2⟩ : ∃ a, a = endS f i := ⟨_, rfl⟩
    rw [← hA1] at g1 hsm hsi
    rw [← hA2] at g2 hsm hsi hcs
    obtain ⟨b, hb⟩ : ∃ b, b = decide (A1 = A2) := ⟨_, rfl⟩
    rw [← hb] at hsm hsi
    cases hbb : b with
    | true =>
      rw [hbb] at hsi hsm
      rw [if_neg (by rw [hsm]; simp)] at hcs
      repeat' (first
        | (with_reducible refine aw_seq ?_)
        | ((with_reducible refine twoG_intro ?_ ?_) <;> intro hTw <;> first | (exact Bool.noConfusion hTw) | ((try simp only [hTw, Bool.not_true, Bool.not_false, Bool.true_and, Bool.false_and, Bool.and_true, Bool.and_false, Bool.true_or, Bool.false_or, Bool.or_true, Bool.or_false]); (first | (guard_hyp hTw : true = true; clear hTw) | (guard_hyp hTw : false = false; clear hTw) | (revert hTw; intro _))))
        | ((with_reducible refine two_intro ?_ ?_) <;> intro hTw <;> first | (exact Bool.noConfusion hTw) | ((first | (guard_hyp hTw : true = true; clear hTw) | (guard_hyp hTw : false = false; clear hTw) | (revert hTw; intro _))))
        | ((with_reducible refine And.intro ?_ ?_); (focus (first | omega | rfl | decide | grind)))
        | (with_reducible refine aw_block ?_)
        | (with_reducible refine aw_scope ?_)
        | ((first
            | ((with_reducible refine aw_regionA T_ok ?_ ?_); (focus kernel_rfl))
            | ((with_reducible refine aw_drawnA T_ok ?_ ?_ ?_ ?_); (focus kernel_rfl); (focus kernel_rfl); (focus (decide +kernel)))
            | ((with_reducible refine aw_drawnF T_ok ?_ ?_ ?_ ?_); (focus kernel_rfl); (focus kernel_rfl); (focus (decide +kernel)))
            | ((with_reducible refine aw_drawnC T_ok ?_ ?_ ?_ ?_); (focus kernel_rfl); (focus kernel_rfl); (focus (decide +kernel)))
            | ((with_reducible refine callK_intro (hsi) (by with_unfolding_all rfl) ?_ ?_); (focus kernel_rfl))
            | ((with_reducible refine callI_spec (hsi) (by with_unfolding_all rfl) ?_ ?_ ?_); (focus kernel_rfl); (focus kernel_rfl))
            | (with_reducible refine aw_label ?_)
            | ((with_reducible refine aw_rfM ?_ ?_); (focus kernel_rfl))
            | (with_reducible refine aw_skip ?_)
            | (with_reducible refine aw_exit ?_)
            | ((with_reducible refine aw_condM ?_ ?_); (focus kernel_rfl))
            | (with_reducible refine aw_ret ?_)
          ); simp only [↓avP, avQ, if_true, if_false, forall_const, beq_self_eq_true, eq_self, ne_eq, implies_true, reduceIte, Nat.reduceEqDiff, Nat.reduceAdd, Nat.reduceSub, Int.reduceToNat, Nat.reduceLeDiff, Nat.reduceLT, reduceCtorEq, Int.reduceEq, ↓hwpC.eq_def, ↓hopC.eq_def, ↓apKH.eq_def, ↓apH.eq_def, rqOk, lkC, delO, takes, whoMakes, headC, tailC, isTC, Option.some.injEq, Nat.zero_le, Nat.sub_zero, retQ, retL, resV, RetV, RetOk, SubL, intD_B, lotD_B, flowD_B, seenD_B, snocI, snocL, seen_take2, seen_take1, gfl_t1, gfl_d2, gb_app, gb_t2, gb_d3, gb_len, gb_one, ty_3, ty_28, ty_4, ty_24, ty_30, ty_22, ty_25, ty_27, issD_get, hd4, hlG, hlR, g1, g2]; try simp (disch := omega) only [av_w, av_t1, av_tp, Int.toNat_natCast]))
      refine ⟨i + 1, by omega, by dsimp only; omega, wk_of [(0, some 0), (1, some 1), (2, some 2)] rfl rfl ?_ ?_⟩
      · simp only [wkT, wkB, wkB1, subV, subVs, subD, subB, lkN_n, lkN_c, lkT_n, lkT_c, lkB_n, lkB_c, if_true, if_false, reduceIte, Nat.reduceEqDiff, true_and, and_true, and_self, inT, ofA]
        rw [hcs]
        (repeat' (first | exact trivial | rfl | exact rfl | exact subVs_d _ _ | exact subVs_dm _ _ | exact subD_refl _ | refine And.intro ?_ ?_))
      · simp only [wkT, wkB, wkB1, subV, subVs, subD, subB, lkN_n, lkN_c, lkT_n, lkT_c, lkB_n, lkB_c, if_true, if_false, reduceIte, Nat.reduceEqDiff, true_and, and_true, and_self, inT, ofA]
        rw [hcs]
        (repeat' (first | exact trivial | rfl | exact rfl | exact subVs_d _ _ | exact subVs_dm _ _ | exact subD_refl _ | refine And.intro ?_ ?_))
    | false =>
      rw [hbb] at hsi hsm
      rw [if_pos (by rw [hsm]; rfl)] at hcs
      repeat' (first
        | (with_reducible refine aw_seq ?_)
        | ((with_reducible refine twoG_intro ?_ ?_) <;> intro hTw <;> first | (exact Bool.noConfusion hTw) | ((try simp only [hTw, Bool.not_true, Bool.not_false, Bool.true_and, Bool.false_and, Bool.and_true, Bool.and_false, Bool.true_or, Bool.false_or, Bool.or_true, Bool.or_false]); (first | (guard_hyp hTw : true = true; clear hTw) | (guard_hyp hTw : false = false; clear hTw) | (revert hTw; intro _))))
        | ((with_reducible refine two_intro ?_ ?_) <;> intro hTw <;> first | (exact Bool.noConfusion hTw) | ((first | (guard_hyp hTw : true = true; clear hTw) | (guard_hyp hTw : false = false; clear hTw) | (revert hTw; intro _))))
        | ((with_reducible refine And.intro ?_ ?_); (focus (first | omega | rfl | decide | grind)))
        | (with_reducible refine aw_block ?_)
        | (with_reducible refine aw_scope ?_)
        | ((first
            | ((with_reducible refine aw_regionA T_ok ?_ ?_); (focus kernel_rfl))
            | ((with_reducible refine aw_drawnA T_ok ?_ ?_ ?_ ?_); (focus kernel_rfl); (focus kernel_rfl); (focus (decide +kernel)))
            | ((with_reducible refine aw_drawnF T_ok ?_ ?_ ?_ ?_); (focus kernel_rfl); (focus kernel_rfl); (focus (decide +kernel)))
            | ((with_reducible refine aw_drawnC T_ok ?_ ?_ ?_ ?_); (focus kernel_rfl); (focus kernel_rfl); (focus (decide +kernel)))
            | ((with_reducible refine callK_intro (hsi) (by with_unfolding_all rfl) ?_ ?_); (focus kernel_rfl))
            | ((with_reducible refine callI_spec (hsi) (by with_unfolding_all rfl) ?_ ?_ ?_); (focus kernel_rfl); (focus kernel_rfl))
            | (with_reducible refine aw_label ?_)
            | ((with_reducible refine aw_rfM ?_ ?_); (focus kernel_rfl))
            | (with_reducible refine aw_skip ?_)
            | (with_reducible refine aw_exit ?_)
            | ((with_reducible refine aw_condM ?_ ?_); (focus kernel_rfl))
            | (with_reducible refine aw_ret ?_)
          ); simp only [↓avP, avQ, if_true, if_false, forall_const, beq_self_eq_true, eq_self, ne_eq, implies_true, reduceIte, Nat.reduceEqDiff, Nat.reduceAdd, Nat.reduceSub, Int.reduceToNat, Nat.reduceLeDiff, Nat.reduceLT, reduceCtorEq, Int.reduceEq, ↓hwpC.eq_def, ↓hopC.eq_def, ↓apKH.eq_def, ↓apH.eq_def, rqOk, lkC, delO, takes, whoMakes, headC, tailC, isTC, Option.some.injEq, Nat.zero_le, Nat.sub_zero, retQ, retL, resV, RetV, RetOk, SubL, intD_B, lotD_B, flowD_B, seenD_B, snocI, snocL, seen_take2, seen_take1, gfl_t1, gfl_d2, gb_app, gb_t2, gb_d3, gb_len, gb_one, ty_3, ty_28, ty_4, ty_24, ty_30, ty_22, ty_25, ty_27, issD_get, hd4, hlG, hlR, g1, g2]; try simp (disch := omega) only [av_w, av_t1, av_tp, Int.toNat_natCast]))
      refine ⟨i + 1, by omega, by dsimp only; omega, wk_of [(0, some 0), (1, some 1), (2, some 14)] rfl rfl ?_ ?_⟩
      · simp only [wkT, wkB, wkB1, subV, subVs, subD, subB, lkN_n, lkN_c, lkT_n, lkT_c, lkB_n, lkB_c, if_true, if_false, reduceIte, Nat.reduceEqDiff, true_and, and_true, and_self, inT, ofA]
        rw [hcs]
        (repeat' (first | exact trivial | rfl | exact rfl | exact subVs_d _ _ | exact subVs_dm _ _ | exact subD_refl _ | refine And.intro ?_ ?_))
      · simp only [wkT, wkB, wkB1, subV, subVs, subD, subB, lkN_n, lkN_c, lkT_n, lkT_c, lkB_n, lkB_c, if_true, if_false, reduceIte, Nat.reduceEqDiff, true_and, and_true, and_self, inT, ofA]
        rw [hcs]
        (repeat' (first | ((simp; done)) | exact trivial | rfl | exact rfl | exact subVs_d _ _ | exact subVs_dm _ _ | exact subD_refl _ | refine And.intro ?_ ?_))
  obtain rfl : i = N := by omega
  have hd4 : decide ((i : Int) < (i : Int)) = false := ged (Nat.le_refl i)
  repeat' (first
    | (with_reducible refine aw_seq ?_)
    | ((with_reducible refine twoG_intro ?_ ?_) <;> intro hTw <;> first | (exact Bool.noConfusion hTw) | ((try simp only [hTw, Bool.not_true, Bool.not_false, Bool.true_and, Bool.false_and, Bool.and_true, Bool.and_false, Bool.true_or, Bool.false_or, Bool.or_true, Bool.or_false]); (first | (guard_hyp hTw : true = true; clear hTw) | (guard_hyp hTw : false = false; clear hTw) | (revert hTw; intro _))))
    | ((with_reducible refine two_intro ?_ ?_) <;> intro hTw <;> first | (exact Bool.noConfusion hTw) | ((first | (guard_hyp hTw : true = true; clear hTw) | (guard_hyp hTw : false = false; clear hTw) | (revert hTw; intro _))))
    | ((with_reducible refine And.intro ?_ ?_); (focus (first | omega | rfl | decide | grind)))
    | (with_reducible refine aw_block ?_)
    | (with_reducible refine aw_scope ?_)
    | ((first
        | ((with_reducible refine aw_regionA T_ok ?_ ?_); (focus kernel_rfl))
        | ((with_reducible refine aw_drawnA T_ok ?_ ?_ ?_ ?_); (focus kernel_rfl); (focus kernel_rfl); (focus (decide +kernel)))
        | ((with_reducible refine aw_drawnF T_ok ?_ ?_ ?_ ?_); (focus kernel_rfl); (focus kernel_rfl); (focus (decide +kernel)))
        | ((with_reducible refine aw_drawnC T_ok ?_ ?_ ?_ ?_); (focus kernel_rfl); (focus kernel_rfl); (focus (decide +kernel)))
        | (with_reducible refine aw_label ?_)
        | ((with_reducible refine aw_rfM ?_ ?_); (focus kernel_rfl))
        | (with_reducible refine aw_skip ?_)
        | (with_reducible refine aw_exit ?_)
        | ((with_reducible refine aw_condM ?_ ?_); (focus kernel_rfl))
        | (with_reducible refine aw_ret ?_)
      ); simp only [↓avP, avQ, if_true, if_false, forall_const, beq_self_eq_true, eq_self, ne_eq, implies_true, reduceIte, Nat.reduceEqDiff, Nat.reduceAdd, Nat.reduceSub, Int.reduceToNat, Nat.reduceLeDiff, Nat.reduceLT, reduceCtorEq, Int.reduceEq, ↓hwpC.eq_def, ↓hopC.eq_def, ↓apKH.eq_def, ↓apH.eq_def, rqOk, lkC, delO, takes, whoMakes, headC, tailC, isTC, Option.some.injEq, Nat.zero_le, Nat.sub_zero, retQ, retL, resV, RetV, RetOk, SubL, intD_B, lotD_B, flowD_B, seenD_B, snocI, snocL, seen_take2, seen_take1, gfl_t1, gfl_d2, gb_app, gb_t2, gb_d3, gb_len, gb_one, ty_3, ty_28, ty_4, ty_24, ty_30, ty_22, ty_25, ty_27, issD_get, hd4, hlG]; try simp (disch := omega) only [av_w, av_t1, av_tp, Int.toNat_natCast]))
  exact ⟨Sub.refl _, Sub.refl _, Sub.refl _, trivial⟩
theorem qgsame_spec (a b : SeenP) (ha : OkS a) (hb : OkS b) : Spec Try.prog 14 [.agg (seenD a), .agg (seenD b)] (.r1 (aB (decide (a.flow = b.flow) && decide (a.reach = b.reach)))) := by
  refine spec_of T_ok Try.func14 (by dsimp only [Try.f14]) rfl rfl (by simp) fun w F => ?_
  have h1 := qfsame_spec a.flow b.flow ha.f hb.f
  have h2 := qwsame_spec a.reach b.reach ha.rs ha.r hb.r
  cases hd : decide (a.flow = b.flow) with
  | true =>
    rw [hd] at h1
    repeat' (first
      | (with_reducible refine aw_seq ?_)
      | ((with_reducible refine twoG_intro ?_ ?_) <;> intro hTw <;> first | (exact Bool.noConfusion hTw) | ((try simp only [hTw, Bool.not_true, Bool.not_false, Bool.true_and, Bool.false_and, Bool.and_true, Bool.and_false, Bool.true_or, Bool.false_or, Bool.or_true, Bool.or_false]); (first | (guard_hyp hTw : true = true; clear hTw) | (guard_hyp hTw : false = false; clear hTw) | (revert hTw; intro _))))
      | ((with_reducible refine two_intro ?_ ?_) <;> intro hTw <;> first | (exact Bool.noConfusion hTw) | ((first | (guard_hyp hTw : true = true; clear hTw) | (guard_hyp hTw : false = false; clear hTw) | (revert hTw; intro _))))
      | ((with_reducible refine And.intro ?_ ?_); (focus (first | omega | rfl | decide | grind)))
      | (with_reducible refine aw_block ?_)
      | (with_reducible refine aw_scope ?_)
      | ((first
          | ((with_reducible refine aw_regionA T_ok ?_ ?_); (focus kernel_rfl))
          | ((with_reducible refine aw_drawnA T_ok ?_ ?_ ?_ ?_); (focus kernel_rfl); (focus kernel_rfl); (focus (decide +kernel)))
          | ((with_reducible refine aw_drawnF T_ok ?_ ?_ ?_ ?_); (focus kernel_rfl); (focus kernel_rfl); (focus (decide +kernel)))
          | ((with_reducible refine aw_drawnC T_ok ?_ ?_ ?_ ?_); (focus kernel_rfl); (focus kernel_rfl); (focus (decide +kernel)))
          | ((with_reducible refine callK_intro (h1) (by with_unfolding_all rfl) ?_ ?_); (focus kernel_rfl))
          | ((with_reducible refine callI_spec (h1) (by with_unfolding_all rfl) ?_ ?_ ?_); (focus kernel_rfl); (focus kernel_rfl))
          | ((with_reducible refine callK_intro (h2) (by with_unfolding_all rfl) ?_ ?_); (focus kernel_rfl))
          | ((with_reducible refine callI_spec (h2) (by with_unfolding_all rfl) ?_ ?_ ?_); (focus kernel_rfl); (focus kernel_rfl))
          | (with_reducible refine aw_label ?_)
          | ((with_reducible refine aw_rfM ?_ ?_); (focus kernel_rfl))
          | (with_reducible refine aw_skip ?_)
          | (with_reducible refine aw_exit ?_)
          | ((with_reducible refine aw_condM ?_ ?_); (focus kernel_rfl))
          | (with_reducible refine aw_ret ?_)
        ); simp only [↓avP, avQ, if_true, if_false, forall_const, beq_self_eq_true, eq_self, ne_eq, implies_true, reduceIte, Nat.reduceEqDiff, Nat.reduceAdd, Nat.reduceSub, Int.reduceToNat, Nat.reduceLeDiff, Nat.reduceLT, reduceCtorEq, Int.reduceEq, ↓hwpC.eq_def, ↓hopC.eq_def, ↓apKH.eq_def, ↓apH.eq_def, rqOk, lkC, delO, takes, whoMakes, headC, tailC, isTC, Option.some.injEq, Nat.zero_le, Nat.sub_zero, retQ, retL, resV, RetV, RetOk, SubL, intD_B, lotD_B, flowD_B, seenD_B, snocI, snocL, seen_take2, seen_take1, gfl_t1, gfl_d2, gb_app, gb_t2, gb_d3, gb_len, gb_one, ty_3, ty_28, ty_4, ty_24, ty_30, ty_22, ty_25, ty_27, issD_get, hd]; try simp (disch := omega) only [av_w, av_t1, av_tp, Int.toNat_natCast]))
    exact Sub.of_eq (congrArg aB (by simp))
  | false =>
    rw [hd] at h1
    repeat' (first
      | (with_reducible refine aw_seq ?_)
      | ((with_reducible refine twoG_intro ?_ ?_) <;> intro hTw <;> first | (exact Bool.noConfusion hTw) | ((try simp only [hTw, Bool.not_true, Bool.not_false, Bool.true_and, Bool.false_and, Bool.and_true, Bool.and_false, Bool.true_or, Bool.false_or, Bool.or_true, Bool.or_false]); (first | (guard_hyp hTw : true = true; clear hTw) | (guard_hyp hTw : false = false; clear hTw) | (revert hTw; intro _))))
      | ((with_reducible refine two_intro ?_ ?_) <;> intro hTw <;> first | (exact Bool.noConfusion hTw) | ((first | (guard_hyp hTw : true = true; clear hTw) | (guard_hyp hTw : false = false; clear hTw) | (revert hTw; intro _))))
      | ((with_reducible refine And.intro ?_ ?_); (focus (first | omega | rfl | decide | grind)))
      | (with_reducible refine aw_block ?_)
      | (with_reducible refine aw_scope ?_)
      | ((first
          | ((with_reducible refine aw_regionA T_ok ?_ ?_); (focus kernel_rfl))
          | ((with_reducible refine aw_drawnA T_ok ?_ ?_ ?_ ?_); (focus kernel_rfl); (focus kernel_rfl); (focus (decide +kernel)))
          | ((with_reducible refine aw_drawnF T_ok ?_ ?_ ?_ ?_); (focus kernel_rfl); (focus kernel_rfl); (focus (decide +kernel)))
          | ((with_reducible refine aw_drawnC T_ok ?_ ?_ ?_ ?_); (focus kernel_rfl); (focus kernel_rfl); (focus (decide +kernel)))
          | ((with_reducible refine callK_intro (h1) (by with_unfolding_all rfl) ?_ ?_); (focus kernel_rfl))
          | ((with_reducible refine callI_spec (h1) (by with_unfolding_all rfl) ?_ ?_ ?_); (focus kernel_rfl); (focus kernel_rfl))
          | ((with_reducible refine callK_skip (.r1 (aB true)) (by with_unfolding_all rfl) ?_ ?_); (focus kernel_rfl))
          | (with_reducible refine aw_label ?_)
          | ((with_reducible refine aw_rfM ?_ ?_); (focus kernel_rfl))
          | (with_reducible refine aw_skip ?_)
          | (with_reducible refine aw_exit ?_)
          | ((with_reducible refine aw_condM ?_ ?_); (focus kernel_rfl))
          | (with_reducible refine aw_ret ?_)
        ); simp only [↓avP, avQ, if_true, if_false, forall_const, beq_self_eq_true, eq_self, ne_eq, implies_true, reduceIte, Nat.reduceEqDiff, Nat.reduceAdd, Nat.reduceSub, Int.reduceToNat, Nat.reduceLeDiff, Nat.reduceLT, reduceCtorEq, Int.reduceEq, ↓hwpC.eq_def, ↓hopC.eq_def, ↓apKH.eq_def, ↓apH.eq_def, rqOk, lkC, delO, takes, whoMakes, headC, tailC, isTC, Option.some.injEq, Nat.zero_le, Nat.sub_zero, retQ, retL, resV, RetV, RetOk, SubL, intD_B, lotD_B, flowD_B, seenD_B, snocI, snocL, seen_take2, seen_take1, gfl_t1, gfl_d2, gb_app, gb_t2, gb_d3, gb_len, gb_one, ty_3, ty_28, ty_4, ty_24, ty_30, ty_22, ty_25, ty_27, issD_get, hd]; try simp (disch := omega) only [av_w, av_t1, av_tp, Int.toNat_natCast]))
    exact Sub.of_eq (congrArg aB (by simp))
def fewR (R : List (List Int)) (k : Nat) : Bool := (List.range (min k 80)).all fun i => decide ((R.getD i []).length ≤ 80)
def fewG (s : SeenP) (x : LotP) : Bool := fewR s.reach s.reach.length && decide (s.reach.length ≤ 80) && decide (x.inn.length ≤ 70) && decide (x.perm.length ≤ 70) && fewW s.flow && decide (s.flow.lots.length < 12)
theorem fewR_succ (R : List (List Int)) {k : Nat} (hk : k < 80) : fewR R (k + 1) = (fewR R k && decide ((R.getD k []).length ≤ 80)) := by
  unfold fewR
  rw [Nat.min_eq_left (by omega), Nat.min_eq_left (by omega), List.range_succ, List.all_append]
  simp
theorem fewR_of {R : List (List Int)} {k : Nat} (hk : 80 ≤ k) : fewR R k = fewR R 80 := by
  unfold fewR
  rw [Nat.min_eq_right (by omega), Nat.min_eq_right (by omega)]
theorem fewR_bad {R : List (List Int)} {i k : Nat} (hi : i < k) (h80 : i < 80) (h : ¬ (R.getD i []).length ≤ 80) : fewR R k = false := by
  unfold fewR
  rw [List.all_eq_false]
  exact ⟨i, by simp; omega, by simpa using h⟩
theorem qgfew_spec (s : SeenP) (x : LotP) (hs : OkS s) (hx : OkL x) : Spec Try.prog 9 [.agg (seenD s), .agg (lotD x)] (.r1 (aB (fewG s x))) := by
  refine spec_of T_ok Try.func9 (by dsimp only [Try.f9]) rfl rfl (by simp) fun w F => ?_
  have hW := qwfew_spec s.flow hs.f.l
  have hr := hs.r
  have hrs := hs.rs
  have hxi := hx.li
  have hxp := hx.lp
  have hfl := hs.f.l
  repeat' (first
    | (with_reducible refine aw_seq ?_)
    | ((with_reducible refine twoG_intro ?_ ?_) <;> intro hTw <;> first | (exact Bool.noConfusion hTw) | ((try simp only [hTw, Bool.not_true, Bool.not_false, Bool.true_and, Bool.false_and, Bool.and_true, Bool.and_false, Bool.true_or, Bool.false_or, Bool.or_true, Bool.or_false]); (first | (guard_hyp hTw : true = true; clear hTw) | (guard_hyp hTw : false = false; clear hTw) | (revert hTw; intro _))))
    | ((with_reducible refine two_intro ?_ ?_) <;> intro hTw <;> first | (exact Bool.noConfusion hTw) | ((first | (guard_hyp hTw : true = true; clear hTw) | (guard_hyp hTw : false = false; clear hTw) | (revert hTw; intro _))))
    | ((with_reducible refine And.intro ?_ ?_); (focus (first | omega | rfl | decide | grind)))
    | (with_reducible refine aw_block ?_)
    | (with_reducible refine aw_scope ?_)
    | ((first
        | ((with_reducible refine aw_regionA T_ok ?_ ?_); (focus kernel_rfl))
        | ((with_reducible refine aw_drawnA T_ok ?_ ?_ ?_ ?_); (focus kernel_rfl); (focus kernel_rfl); (focus (decide +kernel)))
        | ((with_reducible refine aw_drawnF T_ok ?_ ?_ ?_ ?_); (focus kernel_rfl); (focus kernel_rfl); (focus (decide +kernel)))
        | ((with_reducible refine aw_drawnC T_ok ?_ ?_ ?_ ?_); (focus kernel_rfl); (focus kernel_rfl); (focus (decide +kernel)))
        | (with_reducible refine aw_label ?_)
        | ((with_reducible refine aw_rfM ?_ ?_); (focus kernel_rfl))
        | (with_reducible refine aw_skip ?_)
        | (with_reducible refine aw_exit ?_)
        | ((with_reducible refine aw_condM ?_ ?_); (focus kernel_rfl))
        | (with_reducible refine aw_ret ?_)
      ); simp only [↓avP, avQ, if_true, if_false, forall_const, beq_self_eq_true, eq_self, ne_eq, implies_true, reduceIte, Nat.reduceEqDiff, Nat.reduceAdd, Nat.reduceSub, Int.reduceToNat, Nat.reduceLeDiff, Nat.reduceLT, reduceCtorEq, Int.reduceEq, ↓hwpC.eq_def, ↓hopC.eq_def, ↓apKH.eq_def, ↓apH.eq_def, rqOk, lkC, delO, takes, whoMakes, headC, tailC, isTC, Option.some.injEq, Nat.zero_le, Nat.sub_zero, retQ, retL, resV, RetV, RetOk, SubL, intD_B, lotD_B, flowD_B, seenD_B, snocI, snocL, seen_take2, seen_take1, gfl_t1, gfl_d2, gb_app, gb_t2, gb_d3, gb_len, gb_one, ty_3, ty_28, ty_4, ty_24, ty_30, ty_22, ty_25, ty_27, issD_get]; try simp (disch := omega) only [av_w, av_t1, av_tp, Int.toNat_natCast]))
  refine aw_loopI (fun k : Nat => ⟨[(2, .ptr 0 0), (3, .ptr 1 0), (5, vI k)], [(1, .cells 30 (dV (lotD x))), (0, .cells 27 (dV (seenD s)))], 2⟩)
    (fun k => k ≤ s.reach.length ∧ k ≤ 80 ∧ fewR s.reach k = true) (fun k => 80 - k) 0 ⟨Nat.zero_le _, by omega, rfl⟩ (wk_of [(0, some 0), (1, some 1)] rfl rfl ?_ ?_) ?_
  · simp only [wkT, wkB, wkB1, subV, subVs, subD, subB, lkN_n, lkN_c, lkT_n, lkT_c, lkB_n, lkB_c, if_true, if_false, reduceIte, Nat.reduceEqDiff, true_and, and_true, and_self, inT, ofA]
    (repeat' (first | exact trivial | rfl | exact rfl | exact subVs_d _ _ | exact subVs_dm _ _ | exact subD_refl _ | refine And.intro ?_ ?_))
  · simp only [wkT, wkB, wkB1, subV, subVs, subD, subB, lkN_n, lkN_c, lkT_n, lkT_c, lkB_n, lkB_c, if_true, if_false, reduceIte, Nat.reduceEqDiff, true_and, and_true, and_self, inT, ofA]
    (repeat' (first | exact trivial | rfl | exact rfl | exact subVs_d _ _ | exact subVs_dm _ _ | exact subD_refl _ | refine And.intro ?_ ?_))
  rintro k ⟨hk, hk8, hfew⟩
  by_cases hgo : k < s.reach.length ∧ k < 80
  · obtain ⟨h1, h2⟩ := hgo
    have hd1 := ltd h1
    have hd2 : decide ((k : Int) < 80) = true := decide_eq_true (by omega)
    have hss := fewR_succ s.reach h2
    have hrk := hrs k
    by_cases hb : (s.reach.getD k []).length ≤ 80
    · have hd3 : decide (((s.reach.getD k []).length : Int) > 80) = false := decide_eq_false (by omega)
      rw [hfew, decide_eq_true hb] at hss
      repeat' (first
        | (with_reducible refine aw_seq ?_)
        | ((with_reducible refine twoG_intro ?_ ?_) <;> intro hTw <;> first | (exact Bool.noConfusion hTw) | ((try simp only [hTw, Bool.not_true, Bool.not_false, Bool.true_and, Bool.false_and, Bool.and_true, Bool.and_false, Bool.true_or, Bool.false_or, Bool.or_true, Bool.or_false]); (first | (guard_hyp hTw : true = true; clear hTw) | (guard_hyp hTw : false = false; clear hTw) | (revert hTw; intro _))))
        | ((with_reducible refine two_intro ?_ ?_) <;> intro hTw <;> first | (exact Bool.noConfusion hTw) | ((first | (guard_hyp hTw : true = true; clear hTw) | (guard_hyp hTw : false = false; clear hTw) | (revert hTw; intro _))))
        | ((with_reducible refine And.intro ?_ ?_); (focus (first | omega | rfl | decide | grind)))
        | (with_reducible refine aw_block ?_)
        | (with_reducible refine aw_scope ?_)
        | ((first
            | ((with_reducible refine aw_regionA T_ok ?_ ?_); (focus kernel_rfl))
            | ((with_reducible refine aw_drawnA T_ok ?_ ?_ ?_ ?_); (focus kernel_rfl); (focus kernel_rfl); (focus (decide +kernel)))
            | ((with_reducible refine aw_drawnF T_ok ?_ ?_ ?_ ?_); (focus kernel_rfl); (focus kernel_rfl); (focus (decide +kernel)))
            | ((with_reducible refine aw_drawnC T_ok ?_ ?_ ?_ ?_); (focus kernel_rfl); (focus kernel_rfl); (focus (decide +kernel)))
            | (with_reducible refine aw_label ?_)
            | ((with_reducible refine aw_rfM ?_ ?_); (focus kernel_rfl))
            | (with_reducible refine aw_skip ?_)
            | (with_reducible refine aw_exit ?_)
            | ((with_reducible refine aw_condM ?_ ?_); (focus kernel_rfl))
            | (with_reducible refine aw_ret ?_)
          ); simp only [↓avP, avQ, if_true, if_false, forall_const, beq_self_eq_true, eq_self, ne_eq, implies_true, reduceIte, Nat.reduceEqDiff, Nat.reduceAdd, Nat.reduceSub, Int.reduceToNat, Nat.reduceLeDiff, Nat.reduceLT, reduceCtorEq, Int.reduceEq, ↓hwpC.eq_def, ↓hopC.eq_def, ↓apKH.eq_def, ↓apH.eq_def, rqOk, lkC, delO, takes, whoMakes, headC, tailC, isTC, Option.some.injEq, Nat.zero_le, Nat.sub_zero, retQ, retL, resV, RetV, RetOk, SubL, intD_B, lotD_B, flowD_B, seenD_B, snocI, snocL, seen_take2, seen_take1, gfl_t1, gfl_d2, gb_app, gb_t2, gb_d3, gb_len, gb_one, ty_3, ty_28, ty_4, ty_24, ty_30, ty_22, ty_25, ty_27, issD_get, hd1, hd2, hd3]; try simp (disch := omega) only [av_w, av_t1, av_tp, Int.toNat_natCast]))
      refine ⟨k + 1, ⟨by omega, by omega, hss⟩, by dsimp only; omega, wk_of [(0, some 0), (1, some 1)] rfl rfl ?_ ?_⟩
      · simp only [wkT, wkB, wkB1, subV, subVs, subD, subB, lkN_n, lkN_c, lkT_n, lkT_c, lkB_n, lkB_c, if_true, if_false, reduceIte, Nat.reduceEqDiff, true_and, and_true, and_self, inT, ofA]
        (repeat' (first | exact trivial | rfl | exact rfl | exact subVs_d _ _ | exact subVs_dm _ _ | exact subD_refl _ | refine And.intro ?_ ?_))
      · simp only [wkT, wkB, wkB1, subV, subVs, subD, subB, lkN_n, lkN_c, lkT_n, lkT_c, lkB_n, lkB_c, if_true, if_false, reduceIte, Nat.reduceEqDiff, true_and, and_true, and_self, inT, ofA]
        (repeat' (first | exact trivial | rfl | exact rfl | exact subVs_d _ _ | exact subVs_dm _ _ | exact subD_refl _ | refine And.intro ?_ ?_))
    · have hd3 : decide (((s.reach.getD k []).length : Int) > 80) = true := decide_eq_true (by omega)
      repeat' (first
        | (with_reducible refine aw_seq ?_)
        | ((with_reducible refine twoG_intro ?_ ?_) <;> intro hTw <;> first | (exact Bool.noConfusion hTw) | ((try simp only [hTw, Bool.not_true, Bool.not_false, Bool.true_and, Bool.false_and, Bool.and_true, Bool.and_false, Bool.true_or, Bool.false_or, Bool.or_true, Bool.or_false]); (first | (guard_hyp hTw : true = true; clear hTw) | (guard_hyp hTw : false = false; clear hTw) | (revert hTw; intro _))))
        | ((with_reducible refine two_intro ?_ ?_) <;> intro hTw <;> first | (exact Bool.noConfusion hTw) | ((first | (guard_hyp hTw : true = true; clear hTw) | (guard_hyp hTw : false = false; clear hTw) | (revert hTw; intro _))))
        | ((with_reducible refine And.intro ?_ ?_); (focus (first | omega | rfl | decide | grind)))
        | (with_reducible refine aw_block ?_)
        | (with_reducible refine aw_scope ?_)
        | ((first
            | ((with_reducible refine aw_regionA T_ok ?_ ?_); (focus kernel_rfl))
            | ((with_reducible refine aw_drawnA T_ok ?_ ?_ ?_ ?_); (focus kernel_rfl); (focus kernel_rfl); (focus (decide +kernel)))
            | ((with_reducible refine aw_drawnF T_ok ?_ ?_ ?_ ?_); (focus kernel_rfl); (focus kernel_rfl); (focus (decide +kernel)))
            | ((with_reducible refine aw_drawnC T_ok ?_ ?_ ?_ ?_); (focus kernel_rfl); (focus kernel_rfl); (focus (decide +kernel)))
            | (with_reducible refine aw_label ?_)
            | ((with_reducible refine aw_rfM ?_ ?_); (focus kernel_rfl))
            | (with_reducible refine aw_skip ?_)
            | (with_reducible refine aw_exit ?_)
            | ((with_reducible refine aw_condM ?_ ?_); (focus kernel_rfl))
            | (with_reducible refine aw_ret ?_)
          ); simp only [↓avP, avQ, if_true, if_false, forall_const, beq_self_eq_true, eq_self, ne_eq, implies_true, reduceIte, Nat.reduceEqDiff, Nat.reduceAdd, Nat.reduceSub, Int.reduceToNat, Nat.reduceLeDiff, Nat.reduceLT, reduceCtorEq, Int.reduceEq, ↓hwpC.eq_def, ↓hopC.eq_def, ↓apKH.eq_def, ↓apH.eq_def, rqOk, lkC, delO, takes, whoMakes, headC, tailC, isTC, Option.some.injEq, Nat.zero_le, Nat.sub_zero, retQ, retL, resV, RetV, RetOk, SubL, intD_B, lotD_B, flowD_B, seenD_B, snocI, snocL, seen_take2, seen_take1, gfl_t1, gfl_d2, gb_app, gb_t2, gb_d3, gb_len, gb_one, ty_3, ty_28, ty_4, ty_24, ty_30, ty_22, ty_25, ty_27, issD_get, hd1, hd2, hd3]; try simp (disch := omega) only [av_w, av_t1, av_tp, Int.toNat_natCast]))
      exact Sub.of_eq (congrArg aB (by rw [fewG, fewR_bad h1 h2 hb]; rfl))
  · have hd1 : (decide ((k : Int) < (s.reach.length : Int)) && decide ((k : Int) < 80)) = false := by
      rw [Bool.and_eq_false_iff, decide_eq_false_iff_not, decide_eq_false_iff_not]; omega
    have hall : fewR s.reach s.reach.length = true := by
      rcases Nat.lt_or_ge k s.reach.length with h | h
      · rw [fewR_of (show 80 ≤ s.reach.length by omega), show 80 = k by omega]; exact hfew
      · rw [show s.reach.length = k by omega]; exact hfew
    have hres : fewG s x = (decide (s.reach.length ≤ 80) && decide (x.inn.length ≤ 70) && decide (x.perm.length ≤ 70) && fewW s.flow && decide (s.flow.lots.length < 12)) := by rw [fewG, hall, Bool.true_and]
    rw [hres]
    have e1 : decide ((s.reach.length : Int) ≤ 80) = decide (s.reach.length ≤ 80) := by rw [decide_eq_decide]; omega
    have e2 : decide ((x.inn.length : Int) ≤ 70) = decide (x.inn.length ≤ 70) := by rw [decide_eq_decide]; omega
    have e3 : decide ((x.perm.length : Int) ≤ 70) = decide (x.perm.length ≤ 70) := by rw [decide_eq_decide]; omega
    have e4 : decide ((s.flow.lots.length : Int) < 12) = decide (s.flow.lots.length < 12) := by rw [decide_eq_decide]; omega
    obtain ⟨b1, q1⟩ : ∃ b, b = decide (s.reach.length ≤ 80) := ⟨_, rfl⟩
    obtain ⟨b2, q2⟩ : ∃ b, b = decide (x.inn.length ≤ 70) := ⟨_, rfl⟩
    obtain ⟨b3, q3⟩ : ∃ b, b = decide (x.perm.length ≤ 70) := ⟨_, rfl⟩
    obtain ⟨b4, q4⟩ : ∃ b, b = decide (s.flow.lots.length < 12) := ⟨_, rfl⟩
    rw [← q1] at e1 ⊢
    rw [← q2] at e2 ⊢
    rw [← q3] at e3 ⊢
    rw [← q4] at e4 ⊢
    cases b1 <;> cases b2 <;> cases b3
    case true.true.true =>
      cases hw : fewW s.flow with
      | true =>
        rw [hw] at hW
        repeat' (first
          | (with_reducible refine aw_seq ?_)
          | ((with_reducible refine twoG_intro ?_ ?_) <;> intro hTw <;> first | (exact Bool.noConfusion hTw) | ((try simp only [hTw, Bool.not_true, Bool.not_false, Bool.true_and, Bool.false_and, Bool.and_true, Bool.and_false, Bool.true_or, Bool.false_or, Bool.or_true, Bool.or_false]); (first | (guard_hyp hTw : true = true; clear hTw) | (guard_hyp hTw : false = false; clear hTw) | (revert hTw; intro _))))
          | ((with_reducible refine two_intro ?_ ?_) <;> intro hTw <;> first | (exact Bool.noConfusion hTw) | ((first | (guard_hyp hTw : true = true; clear hTw) | (guard_hyp hTw : false = false; clear hTw) | (revert hTw; intro _))))
          | ((with_reducible refine And.intro ?_ ?_); (focus (first | omega | rfl | decide | grind)))
          | (with_reducible refine aw_block ?_)
          | (with_reducible refine aw_scope ?_)
          | ((first
              | ((with_reducible refine aw_regionA T_ok ?_ ?_); (focus kernel_rfl))
              | ((with_reducible refine aw_drawnA T_ok ?_ ?_ ?_ ?_); (focus kernel_rfl); (focus kernel_rfl); (focus (decide +kernel)))
              | ((with_reducible refine aw_drawnF T_ok ?_ ?_ ?_ ?_); (focus kernel_rfl); (focus kernel_rfl); (focus (decide +kernel)))
              | ((with_reducible refine aw_drawnC T_ok ?_ ?_ ?_ ?_); (focus kernel_rfl); (focus kernel_rfl); (focus (decide +kernel)))
              | ((with_reducible refine callK_intro (hW) (by with_unfolding_all rfl) ?_ ?_); (focus kernel_rfl))
              | ((with_reducible refine callI_spec (hW) (by with_unfolding_all rfl) ?_ ?_ ?_); (focus kernel_rfl); (focus kernel_rfl))
              | (with_reducible refine aw_label ?_)
              | ((with_reducible refine aw_rfM ?_ ?_); (focus kernel_rfl))
              | (with_reducible refine aw_skip ?_)
              | (with_reducible refine aw_exit ?_)
              | ((with_reducible refine aw_condM ?_ ?_); (focus kernel_rfl))
              | (with_reducible refine aw_ret ?_)
            ); simp only [↓avP, avQ, if_true, if_false, forall_const, beq_self_eq_true, eq_self, ne_eq, implies_true, reduceIte, Nat.reduceEqDiff, Nat.reduceAdd, Nat.reduceSub, Int.reduceToNat, Nat.reduceLeDiff, Nat.reduceLT, reduceCtorEq, Int.reduceEq, ↓hwpC.eq_def, ↓hopC.eq_def, ↓apKH.eq_def, ↓apH.eq_def, rqOk, lkC, delO, takes, whoMakes, headC, tailC, isTC, Option.some.injEq, Nat.zero_le, Nat.sub_zero, retQ, retL, resV, RetV, RetOk, SubL, intD_B, lotD_B, flowD_B, seenD_B, snocI, snocL, seen_take2, seen_take1, gfl_t1, gfl_d2, gb_app, gb_t2, gb_d3, gb_len, gb_one, ty_3, ty_28, ty_4, ty_24, ty_30, ty_22, ty_25, ty_27, issD_get, hd1, e1, e2, e3, e4]; try simp (disch := omega) only [av_w, av_t1, av_tp, Int.toNat_natCast]))
        exact Sub.of_eq (congrArg aB (by cases b4 <;> rfl))
      | false =>
        rw [hw] at hW
        repeat' (first
          | (with_reducible refine aw_seq ?_)
          | ((with_reducible refine twoG_intro ?_ ?_) <;> intro hTw <;> first | (exact Bool.noConfusion hTw) | ((try simp only [hTw, Bool.not_true, Bool.not_false, Bool.true_and, Bool.false_and, Bool.and_true, Bool.and_false, Bool.true_or, Bool.false_or, Bool.or_true, Bool.or_false]); (first | (guard_hyp hTw : true = true; clear hTw) | (guard_hyp hTw : false = false; clear hTw) | (revert hTw; intro _))))
          | ((with_reducible refine two_intro ?_ ?_) <;> intro hTw <;> first | (exact Bool.noConfusion hTw) | ((first | (guard_hyp hTw : true = true; clear hTw) | (guard_hyp hTw : false = false; clear hTw) | (revert hTw; intro _))))
          | ((with_reducible refine And.intro ?_ ?_); (focus (first | omega | rfl | decide | grind)))
          | (with_reducible refine aw_block ?_)
          | (with_reducible refine aw_scope ?_)
          | ((first
              | ((with_reducible refine aw_regionA T_ok ?_ ?_); (focus kernel_rfl))
              | ((with_reducible refine aw_drawnA T_ok ?_ ?_ ?_ ?_); (focus kernel_rfl); (focus kernel_rfl); (focus (decide +kernel)))
              | ((with_reducible refine aw_drawnF T_ok ?_ ?_ ?_ ?_); (focus kernel_rfl); (focus kernel_rfl); (focus (decide +kernel)))
              | ((with_reducible refine aw_drawnC T_ok ?_ ?_ ?_ ?_); (focus kernel_rfl); (focus kernel_rfl); (focus (decide +kernel)))
              | ((with_reducible refine callK_intro (hW) (by with_unfolding_all rfl) ?_ ?_); (focus kernel_rfl))
              | ((with_reducible refine callI_spec (hW) (by with_unfolding_all rfl) ?_ ?_ ?_); (focus kernel_rfl); (focus kernel_rfl))
              | (with_reducible refine aw_label ?_)
              | ((with_reducible refine aw_rfM ?_ ?_); (focus kernel_rfl))
              | (with_reducible refine aw_skip ?_)
              | (with_reducible refine aw_exit ?_)
              | ((with_reducible refine aw_condM ?_ ?_); (focus kernel_rfl))
              | (with_reducible refine aw_ret ?_)
            ); simp only [↓avP, avQ, if_true, if_false, forall_const, beq_self_eq_true, eq_self, ne_eq, implies_true, reduceIte, Nat.reduceEqDiff, Nat.reduceAdd, Nat.reduceSub, Int.reduceToNat, Nat.reduceLeDiff, Nat.reduceLT, reduceCtorEq, Int.reduceEq, ↓hwpC.eq_def, ↓hopC.eq_def, ↓apKH.eq_def, ↓apH.eq_def, rqOk, lkC, delO, takes, whoMakes, headC, tailC, isTC, Option.some.injEq, Nat.zero_le, Nat.sub_zero, retQ, retL, resV, RetV, RetOk, SubL, intD_B, lotD_B, flowD_B, seenD_B, snocI, snocL, seen_take2, seen_take1, gfl_t1, gfl_d2, gb_app, gb_t2, gb_d3, gb_len, gb_one, ty_3, ty_28, ty_4, ty_24, ty_30, ty_22, ty_25, ty_27, issD_get, hd1, e1, e2, e3, e4]; try simp (disch := omega) only [av_w, av_t1, av_tp, Int.toNat_natCast]))
        exact Sub.of_eq (congrArg aB (by cases b4 <;> rfl))
    all_goals
      repeat' (first
        | (with_reducible refine aw_seq ?_)
        | ((with_reducible refine twoG_intro ?_ ?_) <;> intro hTw <;> first | (exact Bool.noConfusion hTw) | ((try simp only [hTw, Bool.not_true, Bool.not_false, Bool.true_and, Bool.false_and, Bool.and_true, Bool.and_false, Bool.true_or, Bool.false_or, Bool.or_true, Bool.or_false]); (first | (guard_hyp hTw : true = true; clear hTw) | (guard_hyp hTw : false = false; clear hTw) | (revert hTw; intro _))))
        | ((with_reducible refine two_intro ?_ ?_) <;> intro hTw <;> first | (exact Bool.noConfusion hTw) | ((first | (guard_hyp hTw : true = true; clear hTw) | (guard_hyp hTw : false = false; clear hTw) | (revert hTw; intro _))))
        | ((with_reducible refine And.intro ?_ ?_); (focus (first | omega | rfl | decide | grind)))
        | (with_reducible refine aw_block ?_)
        | (with_reducible refine aw_scope ?_)
        | ((first
            | ((with_reducible refine aw_regionA T_ok ?_ ?_); (focus kernel_rfl))
            | ((with_reducible refine aw_drawnA T_ok ?_ ?_ ?_ ?_); (focus kernel_rfl); (focus kernel_rfl); (focus (decide +kernel)))
            | ((with_reducible refine aw_drawnF T_ok ?_ ?_ ?_ ?_); (focus kernel_rfl); (focus kernel_rfl); (focus (decide +kernel)))
            | ((with_reducible refine aw_drawnC T_ok ?_ ?_ ?_ ?_); (focus kernel_rfl); (focus kernel_rfl); (focus (decide +kernel)))
            | ((with_reducible refine callK_skip (.r1 (aB true)) (by with_unfolding_all rfl) ?_ ?_); (focus kernel_rfl))
            | (with_reducible refine aw_label ?_)
            | ((with_reducible refine aw_rfM ?_ ?_); (focus kernel_rfl))
            | (with_reducible refine aw_skip ?_)
            | (with_reducible refine aw_exit ?_)
            | ((with_reducible refine aw_condM ?_ ?_); (focus kernel_rfl))
            | (with_reducible refine aw_ret ?_)
          ); simp only [↓avP, avQ, if_true, if_false, forall_const, beq_self_eq_true, eq_self, ne_eq, implies_true, reduceIte, Nat.reduceEqDiff, Nat.reduceAdd, Nat.reduceSub, Int.reduceToNat, Nat.reduceLeDiff, Nat.reduceLT, reduceCtorEq, Int.reduceEq, ↓hwpC.eq_def, ↓hopC.eq_def, ↓apKH.eq_def, ↓apH.eq_def, rqOk, lkC, delO, takes, whoMakes, headC, tailC, isTC, Option.some.injEq, Nat.zero_le, Nat.sub_zero, retQ, retL, resV, RetV, RetOk, SubL, intD_B, lotD_B, flowD_B, seenD_B, snocI, snocL, seen_take2, seen_take1, gfl_t1, gfl_d2, gb_app, gb_t2, gb_d3, gb_len, gb_one, ty_3, ty_28, ty_4, ty_24, ty_30, ty_22, ty_25, ty_27, issD_get, hd1, e1, e2, e3, e4]; try simp (disch := omega) only [av_w, av_t1, av_tp, Int.toNat_natCast]))
    all_goals exact Sub.of_eq (congrArg aB (by cases b4 <;> cases fewW s.flow <;> rfl))
end Go.Proofs.Ytnlaiaklafjamaa

