import Derived.Test.YtnlaiaklafjamaaGB3
namespace Go.Proofs.Ytnlaiaklafjamaa
set_option linter.unusedSimpArgs false
set_option linter.unusedVariables false
open Go.RowKit
set_option maxRecDepth 100000
set_option maxHeartbeats 4000000
theorem fcheck2_spec (n : Nat) (s : Int) : Spec Try.prog 33 [aI s, .one (.pt [.c (.int .i64 n)])] (.r1 (aB (outB n s))) := by
  refine spec_of T_ok Try.func33 (by dsimp only [Try.f33]) rfl rfl (by simp) fun w F => ?_
  repeat' (first
    | (with_reducible refine aw_seq ?_)
    | ((with_reducible refine twoG_intro ?_ ?_) <;> intro hTw <;> first | (exact Bool.noConfusion hTw) | ((try simp only [hTw, Bool.not_true, Bool.not_false, Bool.true_and, Bool.false_and, Bool.and_true, Bool.and_false, Bool.true_or, Bool.false_or, Bool.or_true, Bool.or_false]); (first | (guard_hyp hTw : true = true; clear hTw) | (guard_hyp hTw : false = false; clear hTw) | (revert hTw; intro _))))
    | ((with_reducible refine two_intro ?_ ?_) <;> intro hTw <;> first | (exact Bool.noConfusion hTw) | ((first | (guard_hyp hTw : true = true; clear hTw) | (guard_hyp hTw : false = false; clear hTw) | (revert hTw; intro _))))
    | ((with_reducible refine And.intro ?_ ?_); (focus (first | exact keyOk_int_ | omega | rfl | decide | grind)))
    | (with_reducible refine aw_block ?_)
    | (with_reducible refine aw_scope ?_)
    | ((first
        | ((with_reducible refine aw_regionA T_ok ?_ ?_); (focus kernel_rfl))
        | ((with_reducible refine aw_drawnA T_ok ?_ ?_ ?_ ?_); (focus kernel_rfl); (focus kernel_rfl); (focus (decide +kernel)))
        | ((with_reducible refine aw_drawnF T_ok ?_ ?_ ?_ ?_); (focus kernel_rfl); (focus kernel_rfl); (focus (decide +kernel)))
        | (with_reducible refine aw_label ?_)
        | ((with_reducible refine aw_rfM ?_ ?_); (focus kernel_rfl))
        | (with_reducible refine aw_skip ?_)
        | (with_reducible refine aw_exit ?_)
        | ((with_reducible refine aw_condM ?_ ?_); (focus kernel_rfl))
        | (with_reducible refine aw_ret ?_)
      ); simp only [↓avP, avQ, if_true, if_false, forall_const, beq_self_eq_true, eq_self, ne_eq, implies_true, reduceIte, Nat.reduceEqDiff, Nat.reduceAdd, Nat.reduceSub, Int.reduceToNat, Nat.reduceLeDiff, Nat.reduceLT, reduceCtorEq, Int.reduceEq, retQ, retL, resV, RetV, RetOk, SubL, intD_B, lotD_B, flowD_B, snocI, ty_3, ty_28, ty_4, ty_60, ty_24, ty_30, ty_22, ty_63, ty_61, lkM_bool, upM_bool, boolV, boolV_getD, zip_bool]; try simp (disch := omega) only [av_w, av_t1, av_tp, Int.toNat_natCast]))
  all_goals exact Sub.of_eq (congrArg aB rfl)
theorem fcheck1_spec (bef : Int) (gone : List Int) (s : Int) (hb : bef ≤ 9223372036854775807) : Spec Try.prog 31 [aI s, .one (.pt [.c (.int .i64 bef)]), .one (.pt [mpB (metM gone)])] (.r1 (aB (freeB bef gone s))) := by
  unfold mpB
  refine spec_of T_ok Try.func31 (by dsimp only [Try.f31]) rfl rfl (by simp) fun w F => ?_
  have hz : (lkA [s] (metM gone)).getD false = decide (s ∈ gone) := by
    rw [lkA_metM]
    by_cases h : s ∈ gone <;> simp [h]
  repeat' (first
    | (with_reducible refine aw_seq ?_)
    | ((with_reducible refine twoG_intro ?_ ?_) <;> intro hTw <;> first | (exact Bool.noConfusion hTw) | ((try simp only [hTw, Bool.not_true, Bool.not_false, Bool.true_and, Bool.false_and, Bool.and_true, Bool.and_false, Bool.true_or, Bool.false_or, Bool.or_true, Bool.or_false]); (first | (guard_hyp hTw : true = true; clear hTw) | (guard_hyp hTw : false = false; clear hTw) | (revert hTw; intro _))))
    | ((with_reducible refine two_intro ?_ ?_) <;> intro hTw <;> first | (exact Bool.noConfusion hTw) | ((first | (guard_hyp hTw : true = true; clear hTw) | (guard_hyp hTw : false = false; clear hTw) | (revert hTw; intro _))))
    | ((with_reducible refine And.intro ?_ ?_); (focus (first | exact keyOk_int_ | omega | rfl | decide | grind)))
    | (with_reducible refine aw_block ?_)
    | (with_reducible refine aw_scope ?_)
    | ((first
        | ((with_reducible refine aw_regionA T_ok ?_ ?_); (focus kernel_rfl))
        | ((with_reducible refine aw_drawnA T_ok ?_ ?_ ?_ ?_); (focus kernel_rfl); (focus kernel_rfl); (focus (decide +kernel)))
        | ((with_reducible refine aw_drawnF T_ok ?_ ?_ ?_ ?_); (focus kernel_rfl); (focus kernel_rfl); (focus (decide +kernel)))
        | (with_reducible refine aw_label ?_)
        | ((with_reducible refine aw_rfM ?_ ?_); (focus kernel_rfl))
        | (with_reducible refine aw_skip ?_)
        | (with_reducible refine aw_exit ?_)
        | ((with_reducible refine aw_condM ?_ ?_); (focus kernel_rfl))
        | (with_reducible refine aw_ret ?_)
      ); simp only [↓avP, avQ, if_true, if_false, forall_const, beq_self_eq_true, eq_self, ne_eq, implies_true, reduceIte, Nat.reduceEqDiff, Nat.reduceAdd, Nat.reduceSub, Int.reduceToNat, Nat.reduceLeDiff, Nat.reduceLT, reduceCtorEq, Int.reduceEq, retQ, retL, resV, RetV, RetOk, SubL, intD_B, lotD_B, flowD_B, snocI, ty_3, ty_28, ty_4, ty_60, ty_24, ty_30, ty_22, ty_63, ty_61, lkM_bool, upM_bool, boolV, boolV_getD, zip_bool, hz]; try simp (disch := omega) only [av_w, av_t1, av_tp, Int.toNat_natCast]))
  all_goals exact Sub.of_eq (congrArg aB (by simp [freeB]))
theorem fcheck_spec (f : FlowP) (hf : OkF f) : Spec Try.prog 17 [.agg (flowD f)] (.r1 (aI (checkF f))) := by
  refine spec_of T_ok Try.func17 (by dsimp only [Try.f17]) rfl rfl (by simp) fun w F => ?_
  have hs := hf.s
  have hln := hf.l
  by_cases h1 : 64 < f.senders ∨ 2000 < f.lots.length
  · have hc : checkF f = 2 := by unfold checkF; rw [if_pos (by omega)]
    rw [hc]
    repeat' (first
      | (with_reducible refine aw_seq ?_)
      | ((with_reducible refine twoG_intro ?_ ?_) <;> intro hTw <;> first | (exact Bool.noConfusion hTw) | ((try simp only [hTw, Bool.not_true, Bool.not_false, Bool.true_and, Bool.false_and, Bool.and_true, Bool.and_false, Bool.true_or, Bool.false_or, Bool.or_true, Bool.or_false]); (first | (guard_hyp hTw : true = true; clear hTw) | (guard_hyp hTw : false = false; clear hTw) | (revert hTw; intro _))))
      | ((with_reducible refine two_intro ?_ ?_) <;> intro hTw <;> first | (exact Bool.noConfusion hTw) | ((first | (guard_hyp hTw : true = true; clear hTw) | (guard_hyp hTw : false = false; clear hTw) | (revert hTw; intro _))))
      | ((with_reducible refine And.intro ?_ ?_); (focus (first | exact keyOk_int_ | omega | rfl | decide | grind)))
      | (with_reducible refine aw_block ?_)
      | (with_reducible refine aw_scope ?_)
      | ((first
          | ((with_reducible refine aw_regionA T_ok ?_ ?_); (focus kernel_rfl))
          | ((with_reducible refine aw_drawnA T_ok ?_ ?_ ?_ ?_); (focus kernel_rfl); (focus kernel_rfl); (focus (decide +kernel)))
          | ((with_reducible refine aw_drawnF T_ok ?_ ?_ ?_ ?_); (focus kernel_rfl); (focus kernel_rfl); (focus (decide +kernel)))
          | (with_reducible refine aw_label ?_)
          | ((with_reducible refine aw_rfM ?_ ?_); (focus kernel_rfl))
          | (with_reducible refine aw_skip ?_)
          | (with_reducible refine aw_exit ?_)
          | ((with_reducible refine aw_condM ?_ ?_); (focus kernel_rfl))
          | (with_reducible refine aw_ret ?_)
        ); simp only [↓avP, avQ, if_true, if_false, forall_const, beq_self_eq_true, eq_self, ne_eq, implies_true, reduceIte, Nat.reduceEqDiff, Nat.reduceAdd, Nat.reduceSub, Int.reduceToNat, Nat.reduceLeDiff, Nat.reduceLT, reduceCtorEq, Int.reduceEq, retQ, retL, resV, RetV, RetOk, SubL, intD_B, lotD_B, flowD_B, snocI, ty_3, ty_28, ty_4, ty_60, ty_24, ty_30, ty_22, ty_63, ty_61, lkM_bool, upM_bool, boolV, boolV_getD, zip_bool]; try simp (disch := omega) only [av_w, av_t1, av_tp, Int.toNat_natCast]))
    · exact Sub.refl _
    · rename_i h
      exfalso
      simp at h
      omega
  have hd1 : (decide (f.senders > 64) || decide ((f.lots.length : Int) > 2000)) = false := by
    rw [Bool.or_eq_false_iff, decide_eq_false_iff_not, decide_eq_false_iff_not]; omega
  have hb2000 := befF_bound hf (by omega)
  repeat' (first
    | (with_reducible refine aw_seq ?_)
    | ((with_reducible refine twoG_intro ?_ ?_) <;> intro hTw <;> first | (exact Bool.noConfusion hTw) | ((try simp only [hTw, Bool.not_true, Bool.not_false, Bool.true_and, Bool.false_and, Bool.and_true, Bool.and_false, Bool.true_or, Bool.false_or, Bool.or_true, Bool.or_false]); (first | (guard_hyp hTw : true = true; clear hTw) | (guard_hyp hTw : false = false; clear hTw) | (revert hTw; intro _))))
    | ((with_reducible refine two_intro ?_ ?_) <;> intro hTw <;> first | (exact Bool.noConfusion hTw) | ((first | (guard_hyp hTw : true = true; clear hTw) | (guard_hyp hTw : false = false; clear hTw) | (revert hTw; intro _))))
    | ((with_reducible refine And.intro ?_ ?_); (focus (first | exact keyOk_int_ | omega | rfl | decide | grind)))
    | (with_reducible refine aw_block ?_)
    | (with_reducible refine aw_scope ?_)
    | ((first
        | ((with_reducible refine aw_regionA T_ok ?_ ?_); (focus kernel_rfl))
        | ((with_reducible refine aw_drawnA T_ok ?_ ?_ ?_ ?_); (focus kernel_rfl); (focus kernel_rfl); (focus (decide +kernel)))
        | ((with_reducible refine aw_drawnF T_ok ?_ ?_ ?_ ?_); (focus kernel_rfl); (focus kernel_rfl); (focus (decide +kernel)))
        | (with_reducible refine aw_label ?_)
        | ((with_reducible refine aw_rfM ?_ ?_); (focus kernel_rfl))
        | (with_reducible refine aw_skip ?_)
        | (with_reducible refine aw_exit ?_)
        | ((with_reducible refine aw_condM ?_ ?_); (focus kernel_rfl))
        | (with_reducible refine aw_ret ?_)
      ); simp only [↓avP, avQ, if_true, if_false, forall_const, beq_self_eq_true, eq_self, ne_eq, implies_true, reduceIte, Nat.reduceEqDiff, Nat.reduceAdd, Nat.reduceSub, Int.reduceToNat, Nat.reduceLeDiff, Nat.reduceLT, reduceCtorEq, Int.reduceEq, retQ, retL, resV, RetV, RetOk, SubL, intD_B, lotD_B, flowD_B, snocI, ty_3, ty_28, ty_4, ty_60, ty_24, ty_30, ty_22, ty_63, ty_61, lkM_bool, upM_bool, boolV, boolV_getD, zip_bool, hd1]; try simp (disch := omega) only [av_w, av_t1, av_tp, Int.toNat_natCast]))
  refine aw_loopI (fun k : Nat => ⟨[(1, .ptr 0 0), (3, vI (befF f k)), (27, .d (.sl 3 (lotD default) (f.lots.map lotD))), (28, vI f.lots.length), (29, vI k)], [(0, .cells 24 (dV (flowD f)))], 1⟩) (fun k => k ≤ f.lots.length) (fun k => f.lots.length - k) 0 (Nat.zero_le _) (wk_of [(0, some 0)] rfl rfl ?_ ?_) ?_
  · simp only [wkT, wkB, wkB1, subV, subVs, subD, subB, lkN_n, lkN_c, lkT_n, lkT_c, lkB_n, lkB_c, if_true, if_false, reduceIte, Nat.reduceEqDiff, true_and, and_true, and_self, inT, ofA]
    simp [befF]
  · simp only [wkT, wkB, wkB1, subV, subVs, subD, subB, lkN_n, lkN_c, lkT_n, lkT_c, lkB_n, lkB_c, if_true, if_false, reduceIte, Nat.reduceEqDiff, true_and, and_true, and_self, inT, ofA]
    (repeat' (first | exact trivial | rfl | exact rfl | refine And.intro ?_ ?_))
  intro k hk
  have hbk : befF f k ≤ 64 + 2000 * 140737488351232 ∧ f.senders ≤ befF f k := by have := hb2000 k hk; unfold befF; omega
  rcases Nat.lt_or_ge k f.lots.length with hlt | hge
  · have hd := ltd hlt
    have hbs := befF_succ hlt
    have hli := (hf.at k).li
    repeat' (first
      | (with_reducible refine aw_seq ?_)
      | ((with_reducible refine twoG_intro ?_ ?_) <;> intro hTw <;> first | (exact Bool.noConfusion hTw) | ((try simp only [hTw, Bool.not_true, Bool.not_false, Bool.true_and, Bool.false_and, Bool.and_true, Bool.and_false, Bool.true_or, Bool.false_or, Bool.or_true, Bool.or_false]); (first | (guard_hyp hTw : true = true; clear hTw) | (guard_hyp hTw : false = false; clear hTw) | (revert hTw; intro _))))
      | ((with_reducible refine two_intro ?_ ?_) <;> intro hTw <;> first | (exact Bool.noConfusion hTw) | ((first | (guard_hyp hTw : true = true; clear hTw) | (guard_hyp hTw : false = false; clear hTw) | (revert hTw; intro _))))
      | ((with_reducible refine And.intro ?_ ?_); (focus (first | exact keyOk_int_ | omega | rfl | decide | grind)))
      | (with_reducible refine aw_block ?_)
      | (with_reducible refine aw_scope ?_)
      | ((first
          | ((with_reducible refine aw_regionA T_ok ?_ ?_); (focus kernel_rfl))
          | ((with_reducible refine aw_drawnA T_ok ?_ ?_ ?_ ?_); (focus kernel_rfl); (focus kernel_rfl); (focus (decide +kernel)))
          | ((with_reducible refine aw_drawnF T_ok ?_ ?_ ?_ ?_); (focus kernel_rfl); (focus kernel_rfl); (focus (decide +kernel)))
          | (with_reducible refine aw_label ?_)
          | ((with_reducible refine aw_rfM ?_ ?_); (focus kernel_rfl))
          | (with_reducible refine aw_skip ?_)
          | (with_reducible refine aw_exit ?_)
          | ((with_reducible refine aw_condM ?_ ?_); (focus kernel_rfl))
          | (with_reducible refine aw_ret ?_)
        ); simp only [↓avP, avQ, if_true, if_false, forall_const, beq_self_eq_true, eq_self, ne_eq, implies_true, reduceIte, Nat.reduceEqDiff, Nat.reduceAdd, Nat.reduceSub, Int.reduceToNat, Nat.reduceLeDiff, Nat.reduceLT, reduceCtorEq, Int.reduceEq, retQ, retL, resV, RetV, RetOk, SubL, intD_B, lotD_B, flowD_B, snocI, ty_3, ty_28, ty_4, ty_60, ty_24, ty_30, ty_22, ty_63, ty_61, lkM_bool, upM_bool, boolV, boolV_getD, zip_bool, hd]; try simp (disch := omega) only [av_w, av_t1, av_tp, Int.toNat_natCast]))
    refine ⟨k + 1, by omega, by dsimp only; omega, wk_of [(0, some 0)] rfl rfl ?_ ?_⟩
    · simp only [wkT, wkB, wkB1, subV, subVs, subD, subB, lkN_n, lkN_c, lkT_n, lkT_c, lkB_n, lkB_c, if_true, if_false, reduceIte, Nat.reduceEqDiff, true_and, and_true, and_self, inT, ofA]
      rw [hbs]
      (repeat' (first | exact trivial | rfl | exact rfl | refine And.intro ?_ ?_))
    · simp only [wkT, wkB, wkB1, subV, subVs, subD, subB, lkN_n, lkN_c, lkT_n, lkT_c, lkB_n, lkB_c, if_true, if_false, reduceIte, Nat.reduceEqDiff, true_and, and_true, and_self, inT, ofA]
      (repeat' (first | exact trivial | rfl | exact rfl | refine And.intro ?_ ?_))
  obtain rfl : k = f.lots.length := by omega
  have hd := ged (Nat.le_refl f.lots.length)
  by_cases h2 : 50000 < befF f f.lots.length
  · have hc : checkF f = 2 := by unfold checkF; rw [if_pos (by omega)]
    rw [hc]
    have hd2 : decide (befF f f.lots.length > 50000) = true := decide_eq_true h2
    repeat' (first
      | (with_reducible refine aw_seq ?_)
      | ((with_reducible refine twoG_intro ?_ ?_) <;> intro hTw <;> first | (exact Bool.noConfusion hTw) | ((try simp only [hTw, Bool.not_true, Bool.not_false, Bool.true_and, Bool.false_and, Bool.and_true, Bool.and_false, Bool.true_or, Bool.false_or, Bool.or_true, Bool.or_false]); (first | (guard_hyp hTw : true = true; clear hTw) | (guard_hyp hTw : false = false; clear hTw) | (revert hTw; intro _))))
      | ((with_reducible refine two_intro ?_ ?_) <;> intro hTw <;> first | (exact Bool.noConfusion hTw) | ((first | (guard_hyp hTw : true = true; clear hTw) | (guard_hyp hTw : false = false; clear hTw) | (revert hTw; intro _))))
      | ((with_reducible refine And.intro ?_ ?_); (focus (first | exact keyOk_int_ | omega | rfl | decide | grind)))
      | (with_reducible refine aw_block ?_)
      | (with_reducible refine aw_scope ?_)
      | ((first
          | ((with_reducible refine aw_regionA T_ok ?_ ?_); (focus kernel_rfl))
          | ((with_reducible refine aw_drawnA T_ok ?_ ?_ ?_ ?_); (focus kernel_rfl); (focus kernel_rfl); (focus (decide +kernel)))
          | ((with_reducible refine aw_drawnF T_ok ?_ ?_ ?_ ?_); (focus kernel_rfl); (focus kernel_rfl); (focus (decide +kernel)))
          | (with_reducible refine aw_label ?_)
          | ((with_reducible refine aw_rfM ?_ ?_); (focus kernel_rfl))
          | (with_reducible refine aw_skip ?_)
          | (with_reducible refine aw_exit ?_)
          | ((with_reducible refine aw_condM ?_ ?_); (focus kernel_rfl))
          | (with_reducible refine aw_ret ?_)
        ); simp only [↓avP, avQ, if_true, if_false, forall_const, beq_self_eq_true, eq_self, ne_eq, implies_true, reduceIte, Nat.reduceEqDiff, Nat.reduceAdd, Nat.reduceSub, Int.reduceToNat, Nat.reduceLeDiff, Nat.reduceLT, reduceCtorEq, Int.reduceEq, retQ, retL, resV, RetV, RetOk, SubL, intD_B, lotD_B, flowD_B, snocI, ty_3, ty_28, ty_4, ty_60, ty_24, ty_30, ty_22, ty_63, ty_61, lkM_bool, upM_bool, boolV, boolV_getD, zip_bool, hd, hd2]; try simp (disch := omega) only [av_w, av_t1, av_tp, Int.toNat_natCast]))
    exact Sub.refl _
  have hd2 : decide (befF f f.lots.length > 50000) = false := decide_eq_false (by omega)
  by_cases h3 : f.senders < 0
  · have hc : checkF f = 250 := by unfold checkF; rw [if_neg (by omega), if_pos h3]
    rw [hc]
    have hd3 : decide (f.senders < 0) = true := decide_eq_true h3
    repeat' (first
      | (with_reducible refine aw_seq ?_)
      | ((with_reducible refine twoG_intro ?_ ?_) <;> intro hTw <;> first | (exact Bool.noConfusion hTw) | ((try simp only [hTw, Bool.not_true, Bool.not_false, Bool.true_and, Bool.false_and, Bool.and_true, Bool.and_false, Bool.true_or, Bool.false_or, Bool.or_true, Bool.or_false]); (first | (guard_hyp hTw : true = true; clear hTw) | (guard_hyp hTw : false = false; clear hTw) | (revert hTw; intro _))))
      | ((with_reducible refine two_intro ?_ ?_) <;> intro hTw <;> first | (exact Bool.noConfusion hTw) | ((first | (guard_hyp hTw : true = true; clear hTw) | (guard_hyp hTw : false = false; clear hTw) | (revert hTw; intro _))))
      | ((with_reducible refine And.intro ?_ ?_); (focus (first | exact keyOk_int_ | omega | rfl | decide | grind)))
      | (with_reducible refine aw_block ?_)
      | (with_reducible refine aw_scope ?_)
      | ((first
          | ((with_reducible refine aw_regionA T_ok ?_ ?_); (focus kernel_rfl))
          | ((with_reducible refine aw_drawnA T_ok ?_ ?_ ?_ ?_); (focus kernel_rfl); (focus kernel_rfl); (focus (decide +kernel)))
          | ((with_reducible refine aw_drawnF T_ok ?_ ?_ ?_ ?_); (focus kernel_rfl); (focus kernel_rfl); (focus (decide +kernel)))
          | (with_reducible refine aw_label ?_)
          | ((with_reducible refine aw_rfM ?_ ?_); (focus kernel_rfl))
          | (with_reducible refine aw_skip ?_)
          | (with_reducible refine aw_exit ?_)
          | ((with_reducible refine aw_condM ?_ ?_); (focus kernel_rfl))
          | (with_reducible refine aw_ret ?_)
        ); simp only [↓avP, avQ, if_true, if_false, forall_const, beq_self_eq_true, eq_self, ne_eq, implies_true, reduceIte, Nat.reduceEqDiff, Nat.reduceAdd, Nat.reduceSub, Int.reduceToNat, Nat.reduceLeDiff, Nat.reduceLT, reduceCtorEq, Int.reduceEq, retQ, retL, resV, RetV, RetOk, SubL, intD_B, lotD_B, flowD_B, snocI, ty_3, ty_28, ty_4, ty_60, ty_24, ty_30, ty_22, ty_63, ty_61, lkM_bool, upM_bool, boolV, boolV_getD, zip_bool, hd, hd2, hd3]; try simp (disch := omega) only [av_w, av_t1, av_tp, Int.toNat_natCast]))
    exact Sub.refl _
  have hd3 : decide (f.senders < 0) = false := decide_eq_false h3
  have hc : checkF f = if validF f = true then 0 else 250 := by unfold checkF; rw [if_neg (by omega), if_neg h3]
  repeat' (first
    | (with_reducible refine aw_seq ?_)
    | ((with_reducible refine twoG_intro ?_ ?_) <;> intro hTw <;> first | (exact Bool.noConfusion hTw) | ((try simp only [hTw, Bool.not_true, Bool.not_false, Bool.true_and, Bool.false_and, Bool.and_true, Bool.and_false, Bool.true_or, Bool.false_or, Bool.or_true, Bool.or_false]); (first | (guard_hyp hTw : true = true; clear hTw) | (guard_hyp hTw : false = false; clear hTw) | (revert hTw; intro _))))
    | ((with_reducible refine two_intro ?_ ?_) <;> intro hTw <;> first | (exact Bool.noConfusion hTw) | ((first | (guard_hyp hTw : true = true; clear hTw) | (guard_hyp hTw : false = false; clear hTw) | (revert hTw; intro _))))
    | ((with_reducible refine And.intro ?_ ?_); (focus (first | exact keyOk_int_ | omega | rfl | decide | grind)))
    | (with_reducible refine aw_block ?_)
    | (with_reducible refine aw_scope ?_)
    | ((first
        | ((with_reducible refine aw_regionA T_ok ?_ ?_); (focus kernel_rfl))
        | ((with_reducible refine aw_drawnA T_ok ?_ ?_ ?_ ?_); (focus kernel_rfl); (focus kernel_rfl); (focus (decide +kernel)))
        | ((with_reducible refine aw_drawnF T_ok ?_ ?_ ?_ ?_); (focus kernel_rfl); (focus kernel_rfl); (focus (decide +kernel)))
        | ((with_reducible apply callI_in T_ok Try.func30); (focus (dsimp only [Try.f30])); (focus rfl); (focus rfl); (focus kernel_rfl); (focus exact of_decide_eq_true (by kernel_rfl)); (focus kernel_rfl); (focus kernel_rfl); intro _)
        | (with_reducible refine aw_label ?_)
        | ((with_reducible refine aw_rfM ?_ ?_); (focus kernel_rfl))
        | (with_reducible refine aw_skip ?_)
        | (with_reducible refine aw_exit ?_)
        | ((with_reducible refine aw_condM ?_ ?_); (focus kernel_rfl))
        | (with_reducible refine aw_ret ?_)
      ); simp only [↓avP, avQ, if_true, if_false, forall_const, beq_self_eq_true, eq_self, ne_eq, implies_true, reduceIte, Nat.reduceEqDiff, Nat.reduceAdd, Nat.reduceSub, Int.reduceToNat, Nat.reduceLeDiff, Nat.reduceLT, reduceCtorEq, Int.reduceEq, retQ, retL, resV, RetV, RetOk, SubL, intD_B, lotD_B, flowD_B, snocI, ty_3, ty_28, ty_4, ty_60, ty_24, ty_30, ty_22, ty_63, ty_61, lkM_bool, upM_bool, boolV, boolV_getD, zip_bool, hd, hd2, hd3]; try simp (disch := omega) only [av_w, av_t1, av_tp, Int.toNat_natCast]))
  refine aw_loopI (fun k : Nat => ⟨[(6, .ptr 2 0), (7, .fn 45 [.ptr 3 0]), (49, .d (.sl 3 (lotD default) (f.lots.map lotD))), (50, vI f.lots.length), (51, vI k)],
    [(3, .cells 3 [vI (befF f k)]), (2, .cells 60 [.mp 1]), (1, .map .i 3 (.bool false) (boolV false) (mpV boolV (metM (goneF f k))))], 4⟩)
    (fun k => k ≤ f.lots.length ∧ ∀ i, i < k → okAt f i = true) (fun k => f.lots.length - k) 0 ⟨Nat.zero_le _, fun i hi => absurd hi (Nat.not_lt_zero i)⟩ (wk_of [(3, some 3), (2, some 2), (1, some 1)] rfl rfl ?_ ?_) ?_
  · simp only [wkT, wkB, wkB1, subV, subVs, subD, subB, lkN_n, lkN_c, lkT_n, lkT_c, lkB_n, lkB_c, if_true, if_false, reduceIte, Nat.reduceEqDiff, true_and, and_true, and_self, inT, ofA]
    (repeat' (first | exact trivial | rfl | exact rfl | refine And.intro ?_ ?_))
  · simp only [wkT, wkB, wkB1, subV, subVs, subD, subB, lkN_n, lkN_c, lkT_n, lkT_c, lkB_n, lkB_c, if_true, if_false, reduceIte, Nat.reduceEqDiff, true_and, and_true, and_self, inT, ofA]
    simp [befF, goneF, metM, boolV, subV, subD, subM, mpV_nil]
  rintro k ⟨hk, h0⟩
  have hbk : befF f k ≤ 50000 ∧ 0 ≤ befF f k := by have := befF_mono hk; omega
  rcases Nat.lt_or_ge k f.lots.length with hlt | hge
  · have hd := ltd hlt
    have hbs := befF_succ hlt
    have hgs := goneF_succ hlt
    have hok := hf.at k
    have hokd : okAt f k = lotB (befF f k) (goneF f k) (f.lots.getD k default) := rfl
    obtain ⟨x, hx⟩ : ∃ x, x = f.lots.getD k default := ⟨_, rfl⟩
    rw [← hx] at hbs hgs hok hokd
    have hbad : okAt f k = false → validF f = false := fun h => by
      unfold validF
      rw [List.all_eq_false]
      exact ⟨k, by simpa using hlt, by rw [h]; simp⟩
    have hli := hok.li
    have hlp := hok.lp
    have hdf := different_spec x.inn (freeB (befF f k) (goneF f k)) hok.li hok.inn
    have hdp := different_spec x.perm (outB x.inn.length) hok.lp hok.perm
    have hfr : ∀ asA r, FnD aI (freeB (befF f k) (goneF f k)) asA r → Spec Try.prog 31 (asA ++ [.one (.pt [.c (.int .i64 (befF f k))]), .one (.pt [mpB (metM (goneF f k))])]) r := by
      rintro asA r ⟨s, rfl, rfl⟩
      exact fcheck1_spec (befF f k) (goneF f k) s (by omega)
    have hou : ∀ asA r, FnD aI (outB x.inn.length) asA r → Spec Try.prog 33 (asA ++ [.one (.pt [.c (.int .i64 x.inn.length)])]) r := by
      rintro asA r ⟨s, rfl, rfl⟩
      exact fcheck2_spec _ s
    unfold mpB at hfr
    have hsub : befF f k + (x.inn.length : Int) - (x.inn.length : Int) = befF f k := by omega
    have hend : okAt f k = false → checkF f = 250 := fun h => by rw [hc, if_neg (by rw [hbad h]; simp)]
    by_cases hn : x.inn.length = 0
    · have hdn : ((x.inn.length : Int) == 0) = true := by rw [hn]; rfl
      repeat' (first
        | (with_reducible refine aw_seq ?_)
        | ((with_reducible refine twoG_intro ?_ ?_) <;> intro hTw <;> first | (exact Bool.noConfusion hTw) | ((try simp only [hTw, Bool.not_true, Bool.not_false, Bool.true_and, Bool.false_and, Bool.and_true, Bool.and_false, Bool.true_or, Bool.false_or, Bool.or_true, Bool.or_false]); (first | (guard_hyp hTw : true = true; clear hTw) | (guard_hyp hTw : false = false; clear hTw) | (revert hTw; intro _))))
        | ((with_reducible refine two_intro ?_ ?_) <;> intro hTw <;> first | (exact Bool.noConfusion hTw) | ((first | (guard_hyp hTw : true = true; clear hTw) | (guard_hyp hTw : false = false; clear hTw) | (revert hTw; intro _))))
        | ((with_reducible refine And.intro ?_ ?_); (focus (first | exact keyOk_int_ | omega | rfl | decide | grind)))
        | (with_reducible refine aw_block ?_)
        | (with_reducible refine aw_scope ?_)
        | ((first
            | ((with_reducible refine aw_regionA T_ok ?_ ?_); (focus kernel_rfl))
            | ((with_reducible refine aw_drawnA T_ok ?_ ?_ ?_ ?_); (focus kernel_rfl); (focus kernel_rfl); (focus (decide +kernel)))
            | ((with_reducible refine aw_drawnF T_ok ?_ ?_ ?_ ?_); (focus kernel_rfl); (focus kernel_rfl); (focus (decide +kernel)))
            | ((with_reducible apply callI_in T_ok Try.func45); (focus (dsimp only [Try.f45])); (focus rfl); (focus rfl); (focus kernel_rfl); (focus exact of_decide_eq_true (by kernel_rfl)); (focus kernel_rfl); (focus kernel_rfl); intro _)
            | ((with_reducible refine callK_fz (hdf) rfl ?_ ?_ ?_); (focus (repeat' (first | (exact FzA.nil) | (exact FzL.nil) | (exact FzLL.nil) | (exact FzLL_dV _) | (exact Fz.d rfl) | (refine FzA.one ?_ ?_) | (refine FzA.agg ?_ ?_) | (refine FzL.cons ?_ ?_) | (refine FzLL.cons ?_ ?_) | (exact hfr) | (exact FzL_bool _) | (exact (mpV_keys _ _).symm) | (refine Fz.fn ?_ (by kernel_rfl) (hfr)) | (refine Fz.fn ?_ (by kernel_rfl) (FzL_bool _)) | (refine Fz.fn ?_ (by kernel_rfl) ((mpV_keys _ _).symm)) | (refine Fz.fm ?_ (by kernel_rfl) (hfr)) | (refine Fz.fm ?_ (by kernel_rfl) (FzL_bool _)) | (refine Fz.fm ?_ (by kernel_rfl) ((mpV_keys _ _).symm)) | (refine Fz.fc (by kernel_rfl) (hfr)) | (refine Fz.fc (by kernel_rfl) (FzL_bool _)) | (refine Fz.fc (by kernel_rfl) ((mpV_keys _ _).symm)) | (refine Fz.pt rfl ?_) | (refine Fz.mp rfl ?_ ?_ ?_) | (refine Fz.row rfl ?_) | (refine Fz.ag ?_))); done); (focus kernel_rfl))
            | ((with_reducible refine callI_fz (hdf) rfl ?_ ?_ ?_ ?_); (focus (repeat' (first | (exact FzA.nil) | (exact FzL.nil) | (exact FzLL.nil) | (exact FzLL_dV _) | (exact Fz.d rfl) | (refine FzA.one ?_ ?_) | (refine FzA.agg ?_ ?_) | (refine FzL.cons ?_ ?_) | (refine FzLL.cons ?_ ?_) | (exact hfr) | (exact FzL_bool _) | (exact (mpV_keys _ _).symm) | (refine Fz.fn ?_ (by kernel_rfl) (hfr)) | (refine Fz.fn ?_ (by kernel_rfl) (FzL_bool _)) | (refine Fz.fn ?_ (by kernel_rfl) ((mpV_keys _ _).symm)) | (refine Fz.fm ?_ (by kernel_rfl) (hfr)) | (refine Fz.fm ?_ (by kernel_rfl) (FzL_bool _)) | (refine Fz.fm ?_ (by kernel_rfl) ((mpV_keys _ _).symm)) | (refine Fz.fc (by kernel_rfl) (hfr)) | (refine Fz.fc (by kernel_rfl) (FzL_bool _)) | (refine Fz.fc (by kernel_rfl) ((mpV_keys _ _).symm)) | (refine Fz.pt rfl ?_) | (refine Fz.mp rfl ?_ ?_ ?_) | (refine Fz.row rfl ?_) | (refine Fz.ag ?_))); done); (focus kernel_rfl); (focus kernel_rfl))
            | (with_reducible refine aw_label ?_)
            | ((with_reducible refine aw_rfM ?_ ?_); (focus kernel_rfl))
            | (with_reducible refine aw_skip ?_)
            | (with_reducible refine aw_exit ?_)
            | ((with_reducible refine aw_condM ?_ ?_); (focus kernel_rfl))
            | (with_reducible refine aw_ret ?_)
          ); simp only [↓avP, avQ, if_true, if_false, forall_const, beq_self_eq_true, eq_self, ne_eq, implies_true, reduceIte, Nat.reduceEqDiff, Nat.reduceAdd, Nat.reduceSub, Int.reduceToNat, Nat.reduceLeDiff, Nat.reduceLT, reduceCtorEq, Int.reduceEq, retQ, retL, resV, RetV, RetOk, SubL, intD_B, lotD_B, flowD_B, snocI, ty_3, ty_28, ty_4, ty_60, ty_24, ty_30, ty_22, ty_63, ty_61, lkM_bool, upM_bool, boolV, boolV_getD, zip_bool, hd, ← hx, hdn, hsub]; try simp (disch := omega) only [av_w, av_t1, av_tp, Int.toNat_natCast]))
      exact Sub.of_eq (congrArg aI (hend (by rw [hokd, lotB, decide_eq_false (by omega)]; simp)).symm)
    have hdn : ((x.inn.length : Int) == 0) = false := by simp; exact fun e => hn (by rw [e]; rfl)
    cases hdi : diffB (freeB (befF f k) (goneF f k)) x.inn with
    | false =>
      repeat' (first
        | (with_reducible refine aw_seq ?_)
        | ((with_reducible refine twoG_intro ?_ ?_) <;> intro hTw <;> first | (exact Bool.noConfusion hTw) | ((try simp only [hTw, Bool.not_true, Bool.not_false, Bool.true_and, Bool.false_and, Bool.and_true, Bool.and_false, Bool.true_or, Bool.false_or, Bool.or_true, Bool.or_false]); (first | (guard_hyp hTw : true = true; clear hTw) | (guard_hyp hTw : false = false; clear hTw) | (revert hTw; intro _))))
        | ((with_reducible refine two_intro ?_ ?_) <;> intro hTw <;> first | (exact Bool.noConfusion hTw) | ((first | (guard_hyp hTw : true = true; clear hTw) | (guard_hyp hTw : false = false; clear hTw) | (revert hTw; intro _))))
        | ((with_reducible refine And.intro ?_ ?_); (focus (first | exact keyOk_int_ | omega | rfl | decide | grind)))
        | (with_reducible refine aw_block ?_)
        | (with_reducible refine aw_scope ?_)
        | ((first
            | ((with_reducible refine aw_regionA T_ok ?_ ?_); (focus kernel_rfl))
            | ((with_reducible refine aw_drawnA T_ok ?_ ?_ ?_ ?_); (focus kernel_rfl); (focus kernel_rfl); (focus (decide +kernel)))
            | ((with_reducible refine aw_drawnF T_ok ?_ ?_ ?_ ?_); (focus kernel_rfl); (focus kernel_rfl); (focus (decide +kernel)))
            | ((with_reducible apply callI_in T_ok Try.func45); (focus (dsimp only [Try.f45])); (focus rfl); (focus rfl); (focus kernel_rfl); (focus exact of_decide_eq_true (by kernel_rfl)); (focus kernel_rfl); (focus kernel_rfl); intro _)
            | ((with_reducible refine callK_fz (hdf) rfl ?_ ?_ ?_); (focus (repeat' (first | (exact FzA.nil) | (exact FzL.nil) | (exact FzLL.nil) | (exact FzLL_dV _) | (exact Fz.d rfl) | (refine FzA.one ?_ ?_) | (refine FzA.agg ?_ ?_) | (refine FzL.cons ?_ ?_) | (refine FzLL.cons ?_ ?_) | (exact hfr) | (exact FzL_bool _) | (exact (mpV_keys _ _).symm) | (refine Fz.fn ?_ (by kernel_rfl) (hfr)) | (refine Fz.fn ?_ (by kernel_rfl) (FzL_bool _)) | (refine Fz.fn ?_ (by kernel_rfl) ((mpV_keys _ _).symm)) | (refine Fz.fm ?_ (by kernel_rfl) (hfr)) | (refine Fz.fm ?_ (by kernel_rfl) (FzL_bool _)) | (refine Fz.fm ?_ (by kernel_rfl) ((mpV_keys _ _).symm)) | (refine Fz.fc (by kernel_rfl) (hfr)) | (refine Fz.fc (by kernel_rfl) (FzL_bool _)) | (refine Fz.fc (by kernel_rfl) ((mpV_keys _ _).symm)) | (refine Fz.pt rfl ?_) | (refine Fz.mp rfl ?_ ?_ ?_) | (refine Fz.row rfl ?_) | (refine Fz.ag ?_))); done); (focus kernel_rfl))
            | ((with_reducible refine callI_fz (hdf) rfl ?_ ?_ ?_ ?_); (focus (repeat' (first | (exact FzA.nil) | (exact FzL.nil) | (exact FzLL.nil) | (exact FzLL_dV _) | (exact Fz.d rfl) | (refine FzA.one ?_ ?_) | (refine FzA.agg ?_ ?_) | (refine FzL.cons ?_ ?_) | (refine FzLL.cons ?_ ?_) | (exact hfr) | (exact FzL_bool _) | (exact (mpV_keys _ _).symm) | (refine Fz.fn ?_ (by kernel_rfl) (hfr)) | (refine Fz.fn ?_ (by kernel_rfl) (FzL_bool _)) | (refine Fz.fn ?_ (by kernel_rfl) ((mpV_keys _ _).symm)) | (refine Fz.fm ?_ (by kernel_rfl) (hfr)) | (refine Fz.fm ?_ (by kernel_rfl) (FzL_bool _)) | (refine Fz.fm ?_ (by kernel_rfl) ((mpV_keys _ _).symm)) | (refine Fz.fc (by kernel_rfl) (hfr)) | (refine Fz.fc (by kernel_rfl) (FzL_bool _)) | (refine Fz.fc (by kernel_rfl) ((mpV_keys _ _).symm)) | (refine Fz.pt rfl ?_) | (refine Fz.mp rfl ?_ ?_ ?_) | (refine Fz.row rfl ?_) | (refine Fz.ag ?_))); done); (focus kernel_rfl); (focus kernel_rfl))
            | (with_reducible refine aw_label ?_)
            | ((with_reducible refine aw_rfM ?_ ?_); (focus kernel_rfl))
            | (with_reducible refine aw_skip ?_)
            | (with_reducible refine aw_exit ?_)
            | ((with_reducible refine aw_condM ?_ ?_); (focus kernel_rfl))
            | (with_reducible refine aw_ret ?_)
          ); simp only [↓avP, avQ, if_true, if_false, forall_const, beq_self_eq_true, eq_self, ne_eq, implies_true, reduceIte, Nat.reduceEqDiff, Nat.reduceAdd, Nat.reduceSub, Int.reduceToNat, Nat.reduceLeDiff, Nat.reduceLT, reduceCtorEq, Int.reduceEq, retQ, retL, resV, RetV, RetOk, SubL, intD_B, lotD_B, flowD_B, snocI, ty_3, ty_28, ty_4, ty_60, ty_24, ty_30, ty_22, ty_63, ty_61, lkM_bool, upM_bool, boolV, boolV_getD, zip_bool, hd, ← hx, hdn, hsub, hdi]; try simp (disch := omega) only [av_w, av_t1, av_tp, Int.toNat_natCast]))
      exact Sub.of_eq (congrArg aI (hend (by rw [hokd, lotB, hdi]; simp)).symm)
    | true =>
      repeat' (first
        | (with_reducible refine aw_seq ?_)
        | ((with_reducible refine twoG_intro ?_ ?_) <;> intro hTw <;> first | (exact Bool.noConfusion hTw) | ((try simp only [hTw, Bool.not_true, Bool.not_false, Bool.true_and, Bool.false_and, Bool.and_true, Bool.and_false, Bool.true_or, Bool.false_or, Bool.or_true, Bool.or_false]); (first | (guard_hyp hTw : true = true; clear hTw) | (guard_hyp hTw : false = false; clear hTw) | (revert hTw; intro _))))
        | ((with_reducible refine two_intro ?_ ?_) <;> intro hTw <;> first | (exact Bool.noConfusion hTw) | ((first | (guard_hyp hTw : true = true; clear hTw) | (guard_hyp hTw : false = false; clear hTw) | (revert hTw; intro _))))
        | ((with_reducible refine And.intro ?_ ?_); (focus (first | exact keyOk_int_ | omega | rfl | decide | grind)))
        | (with_reducible refine aw_block ?_)
        | (with_reducible refine aw_scope ?_)
        | ((first
            | ((with_reducible refine aw_regionA T_ok ?_ ?_); (focus kernel_rfl))
            | ((with_reducible refine aw_drawnA T_ok ?_ ?_ ?_ ?_); (focus kernel_rfl); (focus kernel_rfl); (focus (decide +kernel)))
            | ((with_reducible refine aw_drawnF T_ok ?_ ?_ ?_ ?_); (focus kernel_rfl); (focus kernel_rfl); (focus (decide +kernel)))
            | ((with_reducible apply callI_in T_ok Try.func45); (focus (dsimp only [Try.f45])); (focus rfl); (focus rfl); (focus kernel_rfl); (focus exact of_decide_eq_true (by kernel_rfl)); (focus kernel_rfl); (focus kernel_rfl); intro _)
            | ((with_reducible refine callK_fz (hdf) rfl ?_ ?_ ?_); (focus (repeat' (first | (exact FzA.nil) | (exact FzL.nil) | (exact FzLL.nil) | (exact FzLL_dV _) | (exact Fz.d rfl) | (refine FzA.one ?_ ?_) | (refine FzA.agg ?_ ?_) | (refine FzL.cons ?_ ?_) | (refine FzLL.cons ?_ ?_) | (exact hfr) | (exact FzL_bool _) | (exact (mpV_keys _ _).symm) | (refine Fz.fn ?_ (by kernel_rfl) (hfr)) | (refine Fz.fn ?_ (by kernel_rfl) (FzL_bool _)) | (refine Fz.fn ?_ (by kernel_rfl) ((mpV_keys _ _).symm)) | (refine Fz.fm ?_ (by kernel_rfl) (hfr)) | (refine Fz.fm ?_ (by kernel_rfl) (FzL_bool _)) | (refine Fz.fm ?_ (by kernel_rfl) ((mpV_keys _ _).symm)) | (refine Fz.fc (by kernel_rfl) (hfr)) | (refine Fz.fc (by kernel_rfl) (FzL_bool _)) | (refine Fz.fc (by kernel_rfl) ((mpV_keys _ _).symm)) | (refine Fz.pt rfl ?_) | (refine Fz.mp rfl ?_ ?_ ?_) | (refine Fz.row rfl ?_) | (refine Fz.ag ?_))); done); (focus kernel_rfl))
            | ((with_reducible refine callI_fz (hdf) rfl ?_ ?_ ?_ ?_); (focus (repeat' (first | (exact FzA.nil) | (exact FzL.nil) | (exact FzLL.nil) | (exact FzLL_dV _) | (exact Fz.d rfl) | (refine FzA.one ?_ ?_) | (refine FzA.agg ?_ ?_) | (refine FzL.cons ?_ ?_) | (refine FzLL.cons ?_ ?_) | (exact hfr) | (exact FzL_bool _) | (exact (mpV_keys _ _).symm) | (refine Fz.fn ?_ (by kernel_rfl) (hfr)) | (refine Fz.fn ?_ (by kernel_rfl) (FzL_bool _)) | (refine Fz.fn ?_ (by kernel_rfl) ((mpV_keys _ _).symm)) | (refine Fz.fm ?_ (by kernel_rfl) (hfr)) | (refine Fz.fm ?_ (by kernel_rfl) (FzL_bool _)) | (refine Fz.fm ?_ (by kernel_rfl) ((mpV_keys _ _).symm)) | (refine Fz.fc (by kernel_rfl) (hfr)) | (refine Fz.fc (by kernel_rfl) (FzL_bool _)) | (refine Fz.fc (by kernel_rfl) ((mpV_keys _ _).symm)) | (refine Fz.pt rfl ?_) | (refine Fz.mp rfl ?_ ?_ ?_) | (refine Fz.row rfl ?_) | (refine Fz.ag ?_))); done); (focus kernel_rfl); (focus kernel_rfl))
            | (with_reducible refine aw_label ?_)
            | ((with_reducible refine aw_rfM ?_ ?_); (focus kernel_rfl))
            | (with_reducible refine aw_skip ?_)
            | (with_reducible refine aw_exit ?_)
            | ((with_reducible refine aw_condM ?_ ?_); (focus kernel_rfl))
            | (with_reducible refine aw_ret ?_)
          ); simp only [↓avP, avQ, if_true, if_false, forall_const, beq_self_eq_true, eq_self, ne_eq, implies_true, reduceIte, Nat.reduceEqDiff, Nat.reduceAdd, Nat.reduceSub, Int.reduceToNat, Nat.reduceLeDiff, Nat.reduceLT, reduceCtorEq, Int.reduceEq, retQ, retL, resV, RetV, RetOk, SubL, intD_B, lotD_B, flowD_B, snocI, ty_3, ty_28, ty_4, ty_60, ty_24, ty_30, ty_22, ty_63, ty_61, lkM_bool, upM_bool, boolV, boolV_getD, zip_bool, hd, ← hx, hdn, hsub, hdi]; try simp (disch := omega) only [av_w, av_t1, av_tp, Int.toNat_natCast]))
      refine aw_loopI (fun j : Nat => ⟨[(6, .ptr 2 0), (7, .fn 45 [.ptr 3 0]), (9, .ptr 4 0), (10, .ptr 5 0), (49, .d (.sl 3 (lotD default) (f.lots.map lotD))), (50, vI f.lots.length), (51, vI k), (72, vIs x.inn), (73, vI x.inn.length), (74, vI j)],
        [(5, .cells 3 [vI x.inn.length]), (4, .cells 30 (dV (lotD x))), (3, .cells 3 [vI (befF f k + x.inn.length)]), (2, .cells 60 [.mp 1]), (1, .map .i 3 (.bool false) (boolV false) (mpV boolV (metM (goneF f k ++ x.inn.take j))))], 6⟩)
        (fun j => j ≤ x.inn.length) (fun j => x.inn.length - j) 0 (Nat.zero_le _) (wk_of [(5, some 5), (4, some 4), (3, some 3), (2, some 2), (1, some 1)] rfl rfl ?_ ?_) ?_
      · simp only [wkT, wkB, wkB1, subV, subVs, subD, subB, lkN_n, lkN_c, lkT_n, lkT_c, lkB_n, lkB_c, if_true, if_false, reduceIte, Nat.reduceEqDiff, true_and, and_true, and_self, inT, ofA]
        (repeat' (first | exact trivial | rfl | exact rfl | refine And.intro ?_ ?_))
      · simp only [wkT, wkB, wkB1, subV, subVs, subD, subB, lkN_n, lkN_c, lkT_n, lkT_c, lkB_n, lkB_c, if_true, if_false, reduceIte, Nat.reduceEqDiff, true_and, and_true, and_self, inT, ofA]
        rw [List.take_zero, List.append_nil]
        (repeat' (first | exact subM_mpV (subV_bool _) rfl | exact trivial | rfl | exact rfl | exact subVs_d _ _ | exact subVs_dm _ _ | exact subD_refl _ | refine And.intro ?_ ?_))
      intro j hj
      rcases Nat.lt_or_ge j x.inn.length with hjlt | hjge
      · have hd2 := ltd hjlt
        have hxi := hok.inn _ (getD_mem hjlt)
        have hmt : metM (goneF f k ++ x.inn.take (j + 1)) = upA [x.inn.getD j 0] true (metM (goneF f k ++ x.inn.take j)) := by
          rw [List.take_succ_eq_append_getElem hjlt, ← List.append_assoc, metM_succ]
          have : x.inn.getD j 0 = x.inn[j] := by simp [List.getD, hjlt]
          rw [this]
        repeat' (first
          | (with_reducible refine aw_seq ?_)
          | ((with_reducible refine twoG_intro ?_ ?_) <;> intro hTw <;> first | (exact Bool.noConfusion hTw) | ((try simp only [hTw, Bool.not_true, Bool.not_false, Bool.true_and, Bool.false_and, Bool.and_true, Bool.and_false, Bool.true_or, Bool.false_or, Bool.or_true, Bool.or_false]); (first | (guard_hyp hTw : true = true; clear hTw) | (guard_hyp hTw : false = false; clear hTw) | (revert hTw; intro _))))
          | ((with_reducible refine two_intro ?_ ?_) <;> intro hTw <;> first | (exact Bool.noConfusion hTw) | ((first | (guard_hyp hTw : true = true; clear hTw) | (guard_hyp hTw : false = false; clear hTw) | (revert hTw; intro _))))
          | ((with_reducible refine And.intro ?_ ?_); (focus (first | exact keyOk_int_ | omega | rfl | decide | grind)))
          | (with_reducible refine aw_block ?_)
          | (with_reducible refine aw_scope ?_)
          | ((first
              | ((with_reducible refine aw_regionA T_ok ?_ ?_); (focus kernel_rfl))
              | ((with_reducible refine aw_drawnA T_ok ?_ ?_ ?_ ?_); (focus kernel_rfl); (focus kernel_rfl); (focus (decide +kernel)))
              | ((with_reducible refine aw_drawnF T_ok ?_ ?_ ?_ ?_); (focus kernel_rfl); (focus kernel_rfl); (focus (decide +kernel)))
              | (with_reducible refine aw_label ?_)
              | ((with_reducible refine aw_rfM ?_ ?_); (focus kernel_rfl))
              | (with_reducible refine aw_skip ?_)
              | (with_reducible refine aw_exit ?_)
              | ((with_reducible refine aw_condM ?_ ?_); (focus kernel_rfl))
              | (with_reducible refine aw_ret ?_)
            ); simp only [↓avP, avQ, if_true, if_false, forall_const, beq_self_eq_true, eq_self, ne_eq, implies_true, reduceIte, Nat.reduceEqDiff, Nat.reduceAdd, Nat.reduceSub, Int.reduceToNat, Nat.reduceLeDiff, Nat.reduceLT, reduceCtorEq, Int.reduceEq, retQ, retL, resV, RetV, RetOk, SubL, intD_B, lotD_B, flowD_B, snocI, ty_3, ty_28, ty_4, ty_60, ty_24, ty_30, ty_22, ty_63, ty_61, lkM_bool, upM_bool, boolV, boolV_getD, zip_bool, hd2]; try simp (disch := omega) only [av_w, av_t1, av_tp, Int.toNat_natCast]))
        refine ⟨j + 1, by omega, by dsimp only; omega, wk_of [(5, some 5), (4, some 4), (3, some 3), (2, some 2), (1, some 1)] rfl rfl ?_ ?_⟩
        · simp only [wkT, wkB, wkB1, subV, subVs, subD, subB, lkN_n, lkN_c, lkT_n, lkT_c, lkB_n, lkB_c, if_true, if_false, reduceIte, Nat.reduceEqDiff, true_and, and_true, and_self, inT, ofA]
          (repeat' (first | exact trivial | rfl | exact rfl | exact subVs_d _ _ | exact subVs_dm _ _ | exact subD_refl _ | refine And.intro ?_ ?_))
        · simp only [wkT, wkB, wkB1, subV, subVs, subD, subB, lkN_n, lkN_c, lkT_n, lkT_c, lkB_n, lkB_c, if_true, if_false, reduceIte, Nat.reduceEqDiff, true_and, and_true, and_self, inT, ofA]
          (repeat' (first | exact subM_mpV (subV_bool _) hmt.symm | exact trivial | rfl | exact rfl | exact subVs_d _ _ | exact subVs_dm _ _ | exact subD_refl _ | refine And.intro ?_ ?_))
      · obtain rfl : j = x.inn.length := by omega
        have hd2 := ged (Nat.le_refl x.inn.length)
        rw [List.take_length, ← hgs]
        cases hxk : x.known with
        | true =>
          by_cases hpl : x.perm.length = x.inn.length
          · have hdpl : ((x.perm.length : Int) != (x.inn.length : Int)) = false := by rw [hpl]; simp
            cases hdp2 : diffB (outB x.inn.length) x.perm
            · repeat' (first
                | (with_reducible refine aw_seq ?_)
                | ((with_reducible refine twoG_intro ?_ ?_) <;> intro hTw <;> first | (exact Bool.noConfusion hTw) | ((try simp only [hTw, Bool.not_true, Bool.not_false, Bool.true_and, Bool.false_and, Bool.and_true, Bool.and_false, Bool.true_or, Bool.false_or, Bool.or_true, Bool.or_false]); (first | (guard_hyp hTw : true = true; clear hTw) | (guard_hyp hTw : false = false; clear hTw) | (revert hTw; intro _))))
                | ((with_reducible refine two_intro ?_ ?_) <;> intro hTw <;> first | (exact Bool.noConfusion hTw) | ((first | (guard_hyp hTw : true = true; clear hTw) | (guard_hyp hTw : false = false; clear hTw) | (revert hTw; intro _))))
                | ((with_reducible refine And.intro ?_ ?_); (focus (first | exact keyOk_int_ | omega | rfl | decide | grind)))
                | (with_reducible refine aw_block ?_)
                | (with_reducible refine aw_scope ?_)
                | ((first
                    | ((with_reducible refine aw_regionA T_ok ?_ ?_); (focus kernel_rfl))
                    | ((with_reducible refine aw_drawnA T_ok ?_ ?_ ?_ ?_); (focus kernel_rfl); (focus kernel_rfl); (focus (decide +kernel)))
                    | ((with_reducible refine aw_drawnF T_ok ?_ ?_ ?_ ?_); (focus kernel_rfl); (focus kernel_rfl); (focus (decide +kernel)))
                    | ((with_reducible refine callK_fz (hdp) rfl ?_ ?_ ?_); (focus (repeat' (first | (exact FzA.nil) | (exact FzL.nil) | (exact FzLL.nil) | (exact FzLL_dV _) | (exact Fz.d rfl) | (refine FzA.one ?_ ?_) | (refine FzA.agg ?_ ?_) | (refine FzL.cons ?_ ?_) | (refine FzLL.cons ?_ ?_) | (exact hou) | (refine Fz.fn ?_ (by kernel_rfl) (hou)) | (refine Fz.fm ?_ (by kernel_rfl) (hou)) | (refine Fz.fc (by kernel_rfl) (hou)) | (refine Fz.pt rfl ?_) | (refine Fz.mp rfl ?_ ?_ ?_) | (refine Fz.row rfl ?_) | (refine Fz.ag ?_))); done); (focus kernel_rfl))
                    | ((with_reducible refine callI_fz (hdp) rfl ?_ ?_ ?_ ?_); (focus (repeat' (first | (exact FzA.nil) | (exact FzL.nil) | (exact FzLL.nil) | (exact FzLL_dV _) | (exact Fz.d rfl) | (refine FzA.one ?_ ?_) | (refine FzA.agg ?_ ?_) | (refine FzL.cons ?_ ?_) | (refine FzLL.cons ?_ ?_) | (exact hou) | (refine Fz.fn ?_ (by kernel_rfl) (hou)) | (refine Fz.fm ?_ (by kernel_rfl) (hou)) | (refine Fz.fc (by kernel_rfl) (hou)) | (refine Fz.pt rfl ?_) | (refine Fz.mp rfl ?_ ?_ ?_) | (refine Fz.row rfl ?_) | (refine Fz.ag ?_))); done); (focus kernel_rfl); (focus kernel_rfl))
                    | (with_reducible refine aw_label ?_)
                    | ((with_reducible refine aw_rfM ?_ ?_); (focus kernel_rfl))
                    | (with_reducible refine aw_skip ?_)
                    | (with_reducible refine aw_exit ?_)
                    | ((with_reducible refine aw_condM ?_ ?_); (focus kernel_rfl))
                    | (with_reducible refine aw_ret ?_)
                  ); simp only [↓avP, avQ, if_true, if_false, forall_const, beq_self_eq_true, eq_self, ne_eq, implies_true, reduceIte, Nat.reduceEqDiff, Nat.reduceAdd, Nat.reduceSub, Int.reduceToNat, Nat.reduceLeDiff, Nat.reduceLT, reduceCtorEq, Int.reduceEq, retQ, retL, resV, RetV, RetOk, SubL, intD_B, lotD_B, flowD_B, snocI, ty_3, ty_28, ty_4, ty_60, ty_24, ty_30, ty_22, ty_63, ty_61, lkM_bool, upM_bool, boolV, boolV_getD, zip_bool, hd2, hxk, hdpl, hdp2]; try simp (disch := omega) only [av_w, av_t1, av_tp, Int.toNat_natCast]))
              exact Sub.of_eq (congrArg aI (hend (by rw [hokd, lotB]; simp [hxk, hdp2, hpl])).symm)
            · repeat' (first
                | (with_reducible refine aw_seq ?_)
                | ((with_reducible refine twoG_intro ?_ ?_) <;> intro hTw <;> first | (exact Bool.noConfusion hTw) | ((try simp only [hTw, Bool.not_true, Bool.not_false, Bool.true_and, Bool.false_and, Bool.and_true, Bool.and_false, Bool.true_or, Bool.false_or, Bool.or_true, Bool.or_false]); (first | (guard_hyp hTw : true = true; clear hTw) | (guard_hyp hTw : false = false; clear hTw) | (revert hTw; intro _))))
                | ((with_reducible refine two_intro ?_ ?_) <;> intro hTw <;> first | (exact Bool.noConfusion hTw) | ((first | (guard_hyp hTw : true = true; clear hTw) | (guard_hyp hTw : false = false; clear hTw) | (revert hTw; intro _))))
                | ((with_reducible refine And.intro ?_ ?_); (focus (first | exact keyOk_int_ | omega | rfl | decide | grind)))
                | (with_reducible refine aw_block ?_)
                | (with_reducible refine aw_scope ?_)
                | ((first
                    | ((with_reducible refine aw_regionA T_ok ?_ ?_); (focus kernel_rfl))
                    | ((with_reducible refine aw_drawnA T_ok ?_ ?_ ?_ ?_); (focus kernel_rfl); (focus kernel_rfl); (focus (decide +kernel)))
                    | ((with_reducible refine aw_drawnF T_ok ?_ ?_ ?_ ?_); (focus kernel_rfl); (focus kernel_rfl); (focus (decide +kernel)))
                    | ((with_reducible refine callK_fz (hdp) rfl ?_ ?_ ?_); (focus (repeat' (first | (exact FzA.nil) | (exact FzL.nil) | (exact FzLL.nil) | (exact FzLL_dV _) | (exact Fz.d rfl) | (refine FzA.one ?_ ?_) | (refine FzA.agg ?_ ?_) | (refine FzL.cons ?_ ?_) | (refine FzLL.cons ?_ ?_) | (exact hou) | (refine Fz.fn ?_ (by kernel_rfl) (hou)) | (refine Fz.fm ?_ (by kernel_rfl) (hou)) | (refine Fz.fc (by kernel_rfl) (hou)) | (refine Fz.pt rfl ?_) | (refine Fz.mp rfl ?_ ?_ ?_) | (refine Fz.row rfl ?_) | (refine Fz.ag ?_))); done); (focus kernel_rfl))
                    | ((with_reducible refine callI_fz (hdp) rfl ?_ ?_ ?_ ?_); (focus (repeat' (first | (exact FzA.nil) | (exact FzL.nil) | (exact FzLL.nil) | (exact FzLL_dV _) | (exact Fz.d rfl) | (refine FzA.one ?_ ?_) | (refine FzA.agg ?_ ?_) | (refine FzL.cons ?_ ?_) | (refine FzLL.cons ?_ ?_) | (exact hou) | (refine Fz.fn ?_ (by kernel_rfl) (hou)) | (refine Fz.fm ?_ (by kernel_rfl) (hou)) | (refine Fz.fc (by kernel_rfl) (hou)) | (refine Fz.pt rfl ?_) | (refine Fz.mp rfl ?_ ?_ ?_) | (refine Fz.row rfl ?_) | (refine Fz.ag ?_))); done); (focus kernel_rfl); (focus kernel_rfl))
                    | (with_reducible refine aw_label ?_)
                    | ((with_reducible refine aw_rfM ?_ ?_); (focus kernel_rfl))
                    | (with_reducible refine aw_skip ?_)
                    | (with_reducible refine aw_exit ?_)
                    | ((with_reducible refine aw_condM ?_ ?_); (focus kernel_rfl))
                    | (with_reducible refine aw_ret ?_)
                  ); simp only [↓avP, avQ, if_true, if_false, forall_const, beq_self_eq_true, eq_self, ne_eq, implies_true, reduceIte, Nat.reduceEqDiff, Nat.reduceAdd, Nat.reduceSub, Int.reduceToNat, Nat.reduceLeDiff, Nat.reduceLT, reduceCtorEq, Int.reduceEq, retQ, retL, resV, RetV, RetOk, SubL, intD_B, lotD_B, flowD_B, snocI, ty_3, ty_28, ty_4, ty_60, ty_24, ty_30, ty_22, ty_63, ty_61, lkM_bool, upM_bool, boolV, boolV_getD, zip_bool, hd2, hxk, hdpl, hdp2]; try simp (disch := omega) only [av_w, av_t1, av_tp, Int.toNat_natCast]))
              refine ⟨k + 1, ⟨by omega, fun i hi => by rcases Nat.lt_succ_iff_lt_or_eq.1 hi with h | rfl; exact h0 i h; exact (by rw [hokd, lotB, hdi, hxk]; simp [hn, hpl, hdp2])⟩, by dsimp only; omega, wk_of [(3, some 3), (2, some 2), (1, some 1)] rfl rfl ?_ ?_⟩
              · simp only [wkT, wkB, wkB1, subV, subVs, subD, subB, lkN_n, lkN_c, lkT_n, lkT_c, lkB_n, lkB_c, if_true, if_false, reduceIte, Nat.reduceEqDiff, true_and, and_true, and_self, inT, ofA]
                (repeat' (first | exact trivial | rfl | exact rfl | exact subVs_d _ _ | exact subVs_dm _ _ | exact subD_refl _ | refine And.intro ?_ ?_))
              · simp only [wkT, wkB, wkB1, subV, subVs, subD, subB, lkN_n, lkN_c, lkT_n, lkT_c, lkB_n, lkB_c, if_true, if_false, reduceIte, Nat.reduceEqDiff, true_and, and_true, and_self, inT, ofA]
                rw [hbs]
                (repeat' (first | exact subM_mpV (subV_bool _) rfl | exact trivial | rfl | exact rfl | exact subVs_d _ _ | exact subVs_dm _ _ | exact subD_refl _ | refine And.intro ?_ ?_))
          · have hdpl : ((x.perm.length : Int) != (x.inn.length : Int)) = true := by simp; omega
            repeat' (first
              | (with_reducible refine aw_seq ?_)
              | ((with_reducible refine twoG_intro ?_ ?_) <;> intro hTw <;> first | (exact Bool.noConfusion hTw) | ((try simp only [hTw, Bool.not_true, Bool.not_false, Bool.true_and, Bool.false_and, Bool.and_true, Bool.and_false, Bool.true_or, Bool.false_or, Bool.or_true, Bool.or_false]); (first | (guard_hyp hTw : true = true; clear hTw) | (guard_hyp hTw : false = false; clear hTw) | (revert hTw; intro _))))
              | ((with_reducible refine two_intro ?_ ?_) <;> intro hTw <;> first | (exact Bool.noConfusion hTw) | ((first | (guard_hyp hTw : true = true; clear hTw) | (guard_hyp hTw : false = false; clear hTw) | (revert hTw; intro _))))
              | ((with_reducible refine And.intro ?_ ?_); (focus (first | exact keyOk_int_ | omega | rfl | decide | grind)))
              | (with_reducible refine aw_block ?_)
              | (with_reducible refine aw_scope ?_)
              | ((first
                  | ((with_reducible refine aw_regionA T_ok ?_ ?_); (focus kernel_rfl))
                  | ((with_reducible refine aw_drawnA T_ok ?_ ?_ ?_ ?_); (focus kernel_rfl); (focus kernel_rfl); (focus (decide +kernel)))
                  | ((with_reducible refine aw_drawnF T_ok ?_ ?_ ?_ ?_); (focus kernel_rfl); (focus kernel_rfl); (focus (decide +kernel)))
                  | ((with_reducible refine callK_fz (hdp) rfl ?_ ?_ ?_); (focus (repeat' (first | (exact FzA.nil) | (exact FzL.nil) | (exact FzLL.nil) | (exact FzLL_dV _) | (exact Fz.d rfl) | (refine FzA.one ?_ ?_) | (refine FzA.agg ?_ ?_) | (refine FzL.cons ?_ ?_) | (refine FzLL.cons ?_ ?_) | (exact hou) | (refine Fz.fn ?_ (by kernel_rfl) (hou)) | (refine Fz.fm ?_ (by kernel_rfl) (hou)) | (refine Fz.fc (by kernel_rfl) (hou)) | (refine Fz.pt rfl ?_) | (refine Fz.mp rfl ?_ ?_ ?_) | (refine Fz.row rfl ?_) | (refine Fz.ag ?_))); done); (focus kernel_rfl))
                  | ((with_reducible refine callI_fz (hdp) rfl ?_ ?_ ?_ ?_); (focus (repeat' (first | (exact FzA.nil) | (exact FzL.nil) | (exact FzLL.nil) | (exact FzLL_dV _) | (exact Fz.d rfl) | (refine FzA.one ?_ ?_) | (refine FzA.agg ?_ ?_) | (refine FzL.cons ?_ ?_) | (refine FzLL.cons ?_ ?_) | (exact hou) | (refine Fz.fn ?_ (by kernel_rfl) (hou)) | (refine Fz.fm ?_ (by kernel_rfl) (hou)) | (refine Fz.fc (by kernel_rfl) (hou)) | (refine Fz.pt rfl ?_) | (refine Fz.mp rfl ?_ ?_ ?_) | (refine Fz.row rfl ?_) | (refine Fz.ag ?_))); done); (focus kernel_rfl); (focus kernel_rfl))
                  | (with_reducible refine aw_label ?_)
                  | ((with_reducible refine aw_rfM ?_ ?_); (focus kernel_rfl))
                  | (with_reducible refine aw_skip ?_)
                  | (with_reducible refine aw_exit ?_)
                  | ((with_reducible refine aw_condM ?_ ?_); (focus kernel_rfl))
                  | (with_reducible refine aw_ret ?_)
                ); simp only [↓avP, avQ, if_true, if_false, forall_const, beq_self_eq_true, eq_self, ne_eq, implies_true, reduceIte, Nat.reduceEqDiff, Nat.reduceAdd, Nat.reduceSub, Int.reduceToNat, Nat.reduceLeDiff, Nat.reduceLT, reduceCtorEq, Int.reduceEq, retQ, retL, resV, RetV, RetOk, SubL, intD_B, lotD_B, flowD_B, snocI, ty_3, ty_28, ty_4, ty_60, ty_24, ty_30, ty_22, ty_63, ty_61, lkM_bool, upM_bool, boolV, boolV_getD, zip_bool, hd2, hxk, hdpl]; try simp (disch := omega) only [av_w, av_t1, av_tp, Int.toNat_natCast]))
            exact Sub.of_eq (congrArg aI (hend (by rw [hokd, lotB]; simp [hxk, hpl])).symm)
        | false =>
          by_cases hpl : x.perm.length = 0
          · have hdpl : decide ((x.perm.length : Int) > 0) = false := decide_eq_false (by omega)
            repeat' (first
              | (with_reducible refine aw_seq ?_)
              | ((with_reducible refine twoG_intro ?_ ?_) <;> intro hTw <;> first | (exact Bool.noConfusion hTw) | ((try simp only [hTw, Bool.not_true, Bool.not_false, Bool.true_and, Bool.false_and, Bool.and_true, Bool.and_false, Bool.true_or, Bool.false_or, Bool.or_true, Bool.or_false]); (first | (guard_hyp hTw : true = true; clear hTw) | (guard_hyp hTw : false = false; clear hTw) | (revert hTw; intro _))))
              | ((with_reducible refine two_intro ?_ ?_) <;> intro hTw <;> first | (exact Bool.noConfusion hTw) | ((first | (guard_hyp hTw : true = true; clear hTw) | (guard_hyp hTw : false = false; clear hTw) | (revert hTw; intro _))))
              | ((with_reducible refine And.intro ?_ ?_); (focus (first | exact keyOk_int_ | omega | rfl | decide | grind)))
              | (with_reducible refine aw_block ?_)
              | (with_reducible refine aw_scope ?_)
              | ((first
                  | ((with_reducible refine aw_regionA T_ok ?_ ?_); (focus kernel_rfl))
                  | ((with_reducible refine aw_drawnA T_ok ?_ ?_ ?_ ?_); (focus kernel_rfl); (focus kernel_rfl); (focus (decide +kernel)))
                  | ((with_reducible refine aw_drawnF T_ok ?_ ?_ ?_ ?_); (focus kernel_rfl); (focus kernel_rfl); (focus (decide +kernel)))
                  | ((with_reducible refine callK_fz (hdp) rfl ?_ ?_ ?_); (focus (repeat' (first | (exact FzA.nil) | (exact FzL.nil) | (exact FzLL.nil) | (exact FzLL_dV _) | (exact Fz.d rfl) | (refine FzA.one ?_ ?_) | (refine FzA.agg ?_ ?_) | (refine FzL.cons ?_ ?_) | (refine FzLL.cons ?_ ?_) | (exact hou) | (refine Fz.fn ?_ (by kernel_rfl) (hou)) | (refine Fz.fm ?_ (by kernel_rfl) (hou)) | (refine Fz.fc (by kernel_rfl) (hou)) | (refine Fz.pt rfl ?_) | (refine Fz.mp rfl ?_ ?_ ?_) | (refine Fz.row rfl ?_) | (refine Fz.ag ?_))); done); (focus kernel_rfl))
                  | ((with_reducible refine callI_fz (hdp) rfl ?_ ?_ ?_ ?_); (focus (repeat' (first | (exact FzA.nil) | (exact FzL.nil) | (exact FzLL.nil) | (exact FzLL_dV _) | (exact Fz.d rfl) | (refine FzA.one ?_ ?_) | (refine FzA.agg ?_ ?_) | (refine FzL.cons ?_ ?_) | (refine FzLL.cons ?_ ?_) | (exact hou) | (refine Fz.fn ?_ (by kernel_rfl) (hou)) | (refine Fz.fm ?_ (by kernel_rfl) (hou)) | (refine Fz.fc (by kernel_rfl) (hou)) | (refine Fz.pt rfl ?_) | (refine Fz.mp rfl ?_ ?_ ?_) | (refine Fz.row rfl ?_) | (refine Fz.ag ?_))); done); (focus kernel_rfl); (focus kernel_rfl))
                  | (with_reducible refine aw_label ?_)
                  | ((with_reducible refine aw_rfM ?_ ?_); (focus kernel_rfl))
                  | (with_reducible refine aw_skip ?_)
                  | (with_reducible refine aw_exit ?_)
                  | ((with_reducible refine aw_condM ?_ ?_); (focus kernel_rfl))
                  | (with_reducible refine aw_ret ?_)
                ); simp only [↓avP, avQ, if_true, if_false, forall_const, beq_self_eq_true, eq_self, ne_eq, implies_true, reduceIte, Nat.reduceEqDiff, Nat.reduceAdd, Nat.reduceSub, Int.reduceToNat, Nat.reduceLeDiff, Nat.reduceLT, reduceCtorEq, Int.reduceEq, retQ, retL, resV, RetV, RetOk, SubL, intD_B, lotD_B, flowD_B, snocI, ty_3, ty_28, ty_4, ty_60, ty_24, ty_30, ty_22, ty_63, ty_61, lkM_bool, upM_bool, boolV, boolV_getD, zip_bool, hd2, hxk, hdpl]; try simp (disch := omega) only [av_w, av_t1, av_tp, Int.toNat_natCast]))
            refine ⟨k + 1, ⟨by omega, fun i hi => by rcases Nat.lt_succ_iff_lt_or_eq.1 hi with h | rfl; exact h0 i h; exact (by rw [hokd, lotB, hdi, hxk]; simp [hn, hpl])⟩, by dsimp only; omega, wk_of [(3, some 3), (2, some 2), (1, some 1)] rfl rfl ?_ ?_⟩
            · simp only [wkT, wkB, wkB1, subV, subVs, subD, subB, lkN_n, lkN_c, lkT_n, lkT_c, lkB_n, lkB_c, if_true, if_false, reduceIte, Nat.reduceEqDiff, true_and, and_true, and_self, inT, ofA]
              (repeat' (first | exact trivial | rfl | exact rfl | exact subVs_d _ _ | exact subVs_dm _ _ | exact subD_refl _ | refine And.intro ?_ ?_))
            · simp only [wkT, wkB, wkB1, subV, subVs, subD, subB, lkN_n, lkN_c, lkT_n, lkT_c, lkB_n, lkB_c, if_true, if_false, reduceIte, Nat.reduceEqDiff, true_and, and_true, and_self, inT, ofA]
              rw [hbs]
              (repeat' (first | exact subM_mpV (subV_bool _) rfl | exact trivial | rfl | exact rfl | exact subVs_d _ _ | exact subVs_dm _ _ | exact subD_refl _ | refine And.intro ?_ ?_))
          · have hdpl : decide ((x.perm.length : Int) > 0) = true := decide_eq_true (by omega)
            repeat' (first
              | (with_reducible refine aw_seq ?_)
              | ((with_reducible refine twoG_intro ?_ ?_) <;> intro hTw <;> first | (exact Bool.noConfusion hTw) | ((try simp only [hTw, Bool.not_true, Bool.not_false, Bool.true_and, Bool.false_and, Bool.and_true, Bool.and_false, Bool.true_or, Bool.false_or, Bool.or_true, Bool.or_false]); (first | (guard_hyp hTw : true = true; clear hTw) | (guard_hyp hTw : false = false; clear hTw) | (revert hTw; intro _))))
              | ((with_reducible refine two_intro ?_ ?_) <;> intro hTw <;> first | (exact Bool.noConfusion hTw) | ((first | (guard_hyp hTw : true = true; clear hTw) | (guard_hyp hTw : false = false; clear hTw) | (revert hTw; intro _))))
              | ((with_reducible refine And.intro ?_ ?_); (focus (first | exact keyOk_int_ | omega | rfl | decide | grind)))
              | (with_reducible refine aw_block ?_)
              | (with_reducible refine aw_scope ?_)
              | ((first
                  | ((with_reducible refine aw_regionA T_ok ?_ ?_); (focus kernel_rfl))
                  | ((with_reducible refine aw_drawnA T_ok ?_ ?_ ?_ ?_); (focus kernel_rfl); (focus kernel_rfl); (focus (decide +kernel)))
                  | ((with_reducible refine aw_drawnF T_ok ?_ ?_ ?_ ?_); (focus kernel_rfl); (focus kernel_rfl); (focus (decide +kernel)))
                  | ((with_reducible refine callK_fz (hdp) rfl ?_ ?_ ?_); (focus (repeat' (first | (exact FzA.nil) | (exact FzL.nil) | (exact FzLL.nil) | (exact FzLL_dV _) | (exact Fz.d rfl) | (refine FzA.one ?_ ?_) | (refine FzA.agg ?_ ?_) | (refine FzL.cons ?_ ?_) | (refine FzLL.cons ?_ ?_) | (exact hou) | (refine Fz.fn ?_ (by kernel_rfl) (hou)) | (refine Fz.fm ?_ (by kernel_rfl) (hou)) | (refine Fz.fc (by kernel_rfl) (hou)) | (refine Fz.pt rfl ?_) | (refine Fz.mp rfl ?_ ?_ ?_) | (refine Fz.row rfl ?_) | (refine Fz.ag ?_))); done); (focus kernel_rfl))
                  | ((with_reducible refine callI_fz (hdp) rfl ?_ ?_ ?_ ?_); (focus (repeat' (first | (exact FzA.nil) | (exact FzL.nil) | (exact FzLL.nil) | (exact FzLL_dV _) | (exact Fz.d rfl) | (refine FzA.one ?_ ?_) | (refine FzA.agg ?_ ?_) | (refine FzL.cons ?_ ?_) | (refine FzLL.cons ?_ ?_) | (exact hou) | (refine Fz.fn ?_ (by kernel_rfl) (hou)) | (refine Fz.fm ?_ (by kernel_rfl) (hou)) | (refine Fz.fc (by kernel_rfl) (hou)) | (refine Fz.pt rfl ?_) | (refine Fz.mp rfl ?_ ?_ ?_) | (refine Fz.row rfl ?_) | (refine Fz.ag ?_))); done); (focus kernel_rfl); (focus kernel_rfl))
                  | (with_reducible refine aw_label ?_)
                  | ((with_reducible refine aw_rfM ?_ ?_); (focus kernel_rfl))
                  | (with_reducible refine aw_skip ?_)
                  | (with_reducible refine aw_exit ?_)
                  | ((with_reducible refine aw_condM ?_ ?_); (focus kernel_rfl))
                  | (with_reducible refine aw_ret ?_)
                ); simp only [↓avP, avQ, if_true, if_false, forall_const, beq_self_eq_true, eq_self, ne_eq, implies_true, reduceIte, Nat.reduceEqDiff, Nat.reduceAdd, Nat.reduceSub, Int.reduceToNat, Nat.reduceLeDiff, Nat.reduceLT, reduceCtorEq, Int.reduceEq, retQ, retL, resV, RetV, RetOk, SubL, intD_B, lotD_B, flowD_B, snocI, ty_3, ty_28, ty_4, ty_60, ty_24, ty_30, ty_22, ty_63, ty_61, lkM_bool, upM_bool, boolV, boolV_getD, zip_bool, hd2, hxk, hdpl]; try simp (disch := omega) only [av_w, av_t1, av_tp, Int.toNat_natCast]))
            exact Sub.of_eq (congrArg aI (hend (by rw [hokd, lotB]; simp [hxk, hpl])).symm)
  · obtain rfl : k = f.lots.length := by omega
    have hd := ged (Nat.le_refl f.lots.length)
    repeat' (first
      | (with_reducible refine aw_seq ?_)
      | ((with_reducible refine twoG_intro ?_ ?_) <;> intro hTw <;> first | (exact Bool.noConfusion hTw) | ((try simp only [hTw, Bool.not_true, Bool.not_false, Bool.true_and, Bool.false_and, Bool.and_true, Bool.and_false, Bool.true_or, Bool.false_or, Bool.or_true, Bool.or_false]); (first | (guard_hyp hTw : true = true; clear hTw) | (guard_hyp hTw : false = false; clear hTw) | (revert hTw; intro _))))
      | ((with_reducible refine two_intro ?_ ?_) <;> intro hTw <;> first | (exact Bool.noConfusion hTw) | ((first | (guard_hyp hTw : true = true; clear hTw) | (guard_hyp hTw : false = false; clear hTw) | (revert hTw; intro _))))
      | ((with_reducible refine And.intro ?_ ?_); (focus (first | exact keyOk_int_ | omega | rfl | decide | grind)))
      | (with_reducible refine aw_block ?_)
      | (with_reducible refine aw_scope ?_)
      | ((first
          | ((with_reducible refine aw_regionA T_ok ?_ ?_); (focus kernel_rfl))
          | ((with_reducible refine aw_drawnA T_ok ?_ ?_ ?_ ?_); (focus kernel_rfl); (focus kernel_rfl); (focus (decide +kernel)))
          | ((with_reducible refine aw_drawnF T_ok ?_ ?_ ?_ ?_); (focus kernel_rfl); (focus kernel_rfl); (focus (decide +kernel)))
          | (with_reducible refine aw_label ?_)
          | ((with_reducible refine aw_rfM ?_ ?_); (focus kernel_rfl))
          | (with_reducible refine aw_skip ?_)
          | (with_reducible refine aw_exit ?_)
          | ((with_reducible refine aw_condM ?_ ?_); (focus kernel_rfl))
          | (with_reducible refine aw_ret ?_)
        ); simp only [↓avP, avQ, if_true, if_false, forall_const, beq_self_eq_true, eq_self, ne_eq, implies_true, reduceIte, Nat.reduceEqDiff, Nat.reduceAdd, Nat.reduceSub, Int.reduceToNat, Nat.reduceLeDiff, Nat.reduceLT, reduceCtorEq, Int.reduceEq, retQ, retL, resV, RetV, RetOk, SubL, intD_B, lotD_B, flowD_B, snocI, ty_3, ty_28, ty_4, ty_60, ty_24, ty_30, ty_22, ty_63, ty_61, lkM_bool, upM_bool, boolV, boolV_getD, zip_bool, hd]; try simp (disch := omega) only [av_w, av_t1, av_tp, Int.toNat_natCast]))
    rw [hc, if_pos (by
      unfold validF
      rw [List.all_eq_true]
      intro i hi
      exact h0 i (by simpa using hi))]
    exact Sub.refl _
end Go.Proofs.Ytnlaiaklafjamaa

