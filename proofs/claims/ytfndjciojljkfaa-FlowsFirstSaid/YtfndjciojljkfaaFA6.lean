import Derived.Test.YtfndjciojljkfaaFA4
import Derived.Test.YtfndjciojljkfaaFA5
import Derived.Test.YtfndjciojljkfaaRows
import Derived.WalkKit
import Derived.ProofKit
import Derived.OpenShut
import Derived.Carry
import Derived.ChangeSlices
namespace Go.Proofs.Ytfndjciojljkfaa
set_option linter.unusedSimpArgs false
set_option linter.unusedVariables false
open Go.RowKit
set_option maxRecDepth 100000
set_option maxHeartbeats 4000000
theorem fcheck2_spec (n : Nat) (s : Int) : Spec Try.prog 52 [aI s, .one (.pt [.c (.int .i64 n)])] (.r1 (aB (outB n s))) := by
  refine spec_of T_ok Try.func52 (by dsimp only [Try.f52]) rfl rfl (by simp) fun w F => ?_
  repeat' (first
    | (with_reducible refine aw_seq ?_)
    | ((with_reducible refine twoG_intro ?_ ?_) <;> intro hTw <;> first | (exact Bool.noConfusion hTw) | ((try simp only [hTw, Bool.not_true, Bool.not_false, Bool.true_and, Bool.false_and, Bool.and_true, Bool.and_false, Bool.true_or, Bool.false_or, Bool.or_true, Bool.or_false]); (first | (guard_hyp hTw : true = true; clear hTw) | (guard_hyp hTw : false = false; clear hTw) | (revert hTw; intro _))))
    | ((with_reducible refine two_intro ?_ ?_) <;> intro hTw <;> first | (exact Bool.noConfusion hTw) | ((first | (guard_hyp hTw : true = true; clear hTw) | (guard_hyp hTw : false = false; clear hTw) | (revert hTw; intro _))))
    | ((with_reducible refine And.intro ?_ ?_); (focus (first | exact keyOk_int_ | omega | rfl | decide | grind)))
    | (with_reducible refine aw_block ?_)
    | (with_reducible refine aw_scope ?_)
    | ((first
        | ((with_reducible refine aw_regionA T_ok ?_ ?_); (focus kernel_rfl))
        | ((with_reducible refine aw_drawnA T_ok ?_ ?_ ?_ ?_); (focus kernel_rfl); (focus kernel_rfl); (focus (decide +kernel)))
        | ((with_reducible refine aw_drawnF T_ok ?_ ?_ ?_ ?_); (focus kernel_rfl); (focus kernel_rfl); (focus (decide +kernel)))
        | (with_reducible refine aw_label ?_)
        | ((with_reducible refine aw_rfM ?_ ?_); (focus kernel_rfl))
        | (with_reducible refine aw_skip ?_)
        | (with_reducible refine aw_exit ?_)
        | ((with_reducible refine aw_condM ?_ ?_); (focus kernel_rfl))
        | (with_reducible refine aw_ret ?_)
      ); simp only [↓avP, avQ, if_true, if_false, forall_const, beq_self_eq_true, eq_self, ne_eq, implies_true, reduceIte, Nat.reduceEqDiff, Nat.reduceAdd, Nat.reduceSub, Int.reduceToNat, Nat.reduceLeDiff, Nat.reduceLT, reduceCtorEq, Int.reduceEq, retQ, retL, resV, RetV, RetOk, SubL, intD_B, lotD_B, flowD_B, snocI, ty_3, ty_27, ty_4, ty_39, ty_24, ty_43, ty_22, ty_65, ty_63, lkM_bool, upM_bool, boolV, boolV_getD, zip_bool]; try simp (disch := omega) only [av_w, av_t1, av_tp, Int.toNat_natCast]))
  all_goals exact Sub.of_eq (congrArg aB rfl)
theorem fcheck1_spec (bef : Int) (gone : List Int) (s : Int) (hb : bef ≤ 9223372036854775807) : Spec Try.prog 50 [aI s, .one (.pt [.c (.int .i64 bef)]), .one (.pt [mpB (metM gone)])] (.r1 (aB (freeB bef gone s))) := by
  unfold mpB
  refine spec_of T_ok Try.func50 (by dsimp only [Try.f50]) rfl rfl (by simp) fun w F => ?_
  have hz : (lkA [s] (metM gone)).getD false = decide (s ∈ gone) := by
    rw [lkA_metM]
    by_cases h : s ∈ gone <;> simp [h]
  repeat' (first
    | (with_reducible refine aw_seq ?_)
    | ((with_reducible refine twoG_intro ?_ ?_) <;> intro hTw <;> first | (exact Bool.noConfusion hTw) | ((try simp only [hTw, Bool.not_true, Bool.not_false, Bool.true_and, Bool.false_and, Bool.and_true, Bool.and_false, Bool.true_or, Bool.false_or, Bool.or_true, Bool.or_false]); (first | (guard_hyp hTw : true = true; clear hTw) | (guard_hyp hTw : false = false; clear hTw) | (revert hTw; intro _))))
    | ((with_reducible refine two_intro ?_ ?_) <;> intro hTw <;> first | (exact Bool.noConfusion hTw) | ((first | (guard_hyp hTw : true = true; clear hTw) | (guard_hyp hTw : false = false; clear hTw) | (revert hTw; intro _))))
    | ((with_reducible refine And.intro ?_ ?_); (focus (first | exact keyOk_int_ | omega | rfl | decide | grind)))
    | (with_reducible refine aw_block ?_)
    | (with_reducible refine aw_scope ?_)
    | ((first
        | ((with_reducible refine aw_regionA T_ok ?_ ?_); (focus kernel_rfl))
        | ((with_reducible refine aw_drawnA T_ok ?_ ?_ ?_ ?_); (focus kernel_rfl); (focus kernel_rfl); (focus (decide +kernel)))
        | ((with_reducible refine aw_drawnF T_ok ?_ ?_ ?_ ?_); (focus kernel_rfl); (focus kernel_rfl); (focus (decide +kernel)))
        | (with_reducible refine aw_label ?_)
        | ((with_reducible refine aw_rfM ?_ ?_); (focus kernel_rfl))
        | (with_reducible refine aw_skip ?_)
        | (with_reducible refine aw_exit ?_)
        | ((with_reducible refine aw_condM ?_ ?_); (focus kernel_rfl))
        | (with_reducible refine aw_ret ?_)
      ); simp only [↓avP, avQ, if_true, if_false, forall_const, beq_self_eq_true, eq_self, ne_eq, implies_true, reduceIte, Nat.reduceEqDiff, Nat.reduceAdd, Nat.reduceSub, Int.reduceToNat, Nat.reduceLeDiff, Nat.reduceLT, reduceCtorEq, Int.reduceEq, retQ, retL, resV, RetV, RetOk, SubL, intD_B, lotD_B, flowD_B, snocI, ty_3, ty_27, ty_4, ty_39, ty_24, ty_43, ty_22, ty_65, ty_63, lkM_bool, upM_bool, boolV, boolV_getD, zip_bool, hz]; try simp (disch := omega) only [av_w, av_t1, av_tp, Int.toNat_natCast]))
  all_goals exact Sub.of_eq (congrArg aB (by simp [freeB]))
theorem fcheck_spec (f : FlowP) (hf : OkF f) : Spec Try.prog 20 [.agg (flowD f)] (.r1 (aI (checkF f))) := by
  refine spec_of T_ok Try.func20 (by dsimp only [Try.f20]) rfl rfl (by simp) fun w F => ?_
  have hs := hf.s
  have hln := hf.l
  by_cases h1 : 64 < f.senders ∨ 2000 < f.lots.length
  · have hc : checkF f = 2 := by unfold checkF; rw [if_pos (by omega)]
    rw [hc]
    repeat' (first
      | (with_reducible refine aw_seq ?_)
      | ((with_reducible refine twoG_intro ?_ ?_) <;> intro hTw <;> first | (exact Bool.noConfusion hTw) | ((try simp only [hTw, Bool.not_true, Bool.not_false, Bool.true_and, Bool.false_and, Bool.and_true, Bool.and_false, Bool.true_or, Bool.false_or, Bool.or_true, Bool.or_false]); (first | (guard_hyp hTw : true = true; clear hTw) | (guard_hyp hTw : false = false; clear hTw) | (revert hTw; intro _))))
      | ((with_reducible refine two_intro ?_ ?_) <;> intro hTw <;> first | (exact Bool.noConfusion hTw) | ((first | (guard_hyp hTw : true = true; clear hTw) | (guard_hyp hTw : false = false; clear hTw) | (revert hTw; intro _))))
      | ((with_reducible refine And.intro ?_ ?_); (focus (first | exact keyOk_int_ | omega | rfl | decide | grind)))
      | (with_reducible refine aw_block ?_)
      | (with_reducible refine aw_scope ?_)
      | ((first
          | ((with_reducible refine aw_regionA T_ok ?_ ?_); (focus kernel_rfl))
          | ((with_reducible refine aw_drawnA T_ok ?_ ?_ ?_ ?_); (focus kernel_rfl); (focus kernel_rfl); (focus (decide +kernel)))
          | ((with_reducible refine aw_drawnF T_ok ?_ ?_ ?_ ?_); (focus kernel_rfl); (focus kernel_rfl); (focus (decide +kernel)))
          | (with_reducible refine aw_label ?_)
          | ((with_reducible refine aw_rfM ?_ ?_); (focus kernel_rfl))
          | (with_reducible refine aw_skip ?_)
          | (with_reducible refine aw_exit ?_)
          | ((with_reducible refine aw_condM ?_ ?_); (focus kernel_rfl))
          | (with_reducible refine aw_ret ?_)
        ); simp only [↓avP, avQ, if_true, if_false, forall_const, beq_self_eq_true, eq_self, ne_eq, implies_true, reduceIte, Nat.reduceEqDiff, Nat.reduceAdd, Nat.reduceSub, Int.reduceToNat, Nat.reduceLeDiff, Nat.reduceLT, reduceCtorEq, Int.reduceEq, retQ, retL, resV, RetV, RetOk, SubL, intD_B, lotD_B, flowD_B, snocI, ty_3, ty_27, ty_4, ty_39, ty_24, ty_43, ty_22, ty_65, ty_63, lkM_bool, upM_bool, boolV, boolV_getD, zip_bool]; try simp (disch := omega) only [av_w, av_t1, av_tp, Int.toNat_natCast]))
    · exact Sub.refl _
    · rename_i h
      exfalso
      simp at h
      omega
  have hd1 : (decide (f.senders > 64) || decide ((f.lots.length : Int) > 2000)) = false := by
    rw [Bool.or_eq_false_iff, decide_eq_false_iff_not, decide_eq_false_iff_not]; omega
  have hb2000 := befF_bound hf (by omega)
  repeat' (first
    | (with_reducible refine aw_seq ?_)
    | ((with_reducible refine twoG_intro ?_ ?_) <;> intro hTw <;> first | (exact Bool.noConfusion hTw) | ((try simp only [hTw, Bool.not_true, Bool.not_false, Bool.true_and, Bool.false_and, Bool.and_true, Bool.and_false, Bool.true_or, Bool.false_or, Bool.or_true, Bool.or_false]); (first | (guard_hyp hTw : true = true; clear hTw) | (guard_hyp hTw : false = false; clear hTw) | (revert hTw; intro _))))
    | ((with_reducible refine two_intro ?_ ?_) <;> intro hTw <;> first | (exact Bool.noConfusion hTw) | ((first | (guard_hyp hTw : true = true; clear hTw) | (guard_hyp hTw : false = false; clear hTw) | (revert hTw; intro _))))
    | ((with_reducible refine And.intro ?_ ?_); (focus (first | exact keyOk_int_ | omega | rfl | decide | grind)))
    | (with_reducible refine aw_block ?_)
    | (with_reducible refine aw_scope ?_)
    | ((first
        | ((with_reducible refine aw_regionA T_ok ?_ ?_); (focus kernel_rfl))
        | ((with_reducible refine aw_drawnA T_ok ?_ ?_ ?_ ?_); (focus kernel_rfl); (focus kernel_rfl); (focus (decide +kernel)))
        | ((with_reducible refine aw_drawnF T_ok ?_ ?_ ?_ ?_); (focus kernel_rfl); (focus kernel_rfl); (focus (decide +kernel)))
        | (with_reducible refine aw_label ?_)
        | ((with_reducible refine aw_rfM ?_ ?_); (focus kernel_rfl))
        | (with_reducible refine aw_skip ?_)
        | (with_reducible refine aw_exit ?_)
        | ((with_reducible refine aw_condM ?_ ?_); (focus kernel_rfl))
        | (with_reducible refine aw_ret ?_)
      ); simp only [↓avP, avQ, if_true, if_false, forall_const, beq_self_eq_true, eq_self, ne_eq, implies_true, reduceIte, Nat.reduceEqDiff, Nat.reduceAdd, Nat.reduceSub, Int.reduceToNat, Nat.reduceLeDiff, Nat.reduceLT, reduceCtorEq, Int.reduceEq, retQ, retL, resV, RetV, RetOk, SubL, intD_B, lotD_B, flowD_B, snocI, ty_3, ty_27, ty_4, ty_39, ty_24, ty_43, ty_22, ty_65, ty_63, lkM_bool, upM_bool, boolV, boolV_getD, zip_bool, hd1]; try simp (disch := omega) only [av_w, av_t1, av_tp, Int.toNat_natCast]))
  refine aw_loopI (fun k : Nat => ⟨[(1, .ptr 0 0), (3, vI (befF f k)), (27, .d (.sl 3 (lotD default) (f.lots.map lotD))), (28, vI f.lots.length), (29, vI k)], [(0, .cells 24 (dV (flowD f)))], 1⟩) (fun k => k ≤ f.lots.length) (fun k => f.lots.length - k) 0 (Nat.zero_le _) (wk_of [(0, some 0)] rfl rfl ?_ ?_) ?_
  · simp only [wkT, wkB, wkB1, subV, subVs, subD, subB, lkN_n, lkN_c, lkT_n, lkT_c, lkB_n, lkB_c, if_true, if_false, reduceIte, Nat.reduceEqDiff, true_and, and_true, and_self, inT, ofA]
    simp [befF]
  · simp only [wkT, wkB, wkB1, subV, subVs, subD, subB, lkN_n, lkN_c, lkT_n, lkT_c, lkB_n, lkB_c, if_true, if_false, reduceIte, Nat.reduceEqDiff, true_and, and_true, and_self, inT, ofA]
    (repeat' (first | exact trivial | rfl | exact rfl | refine And.intro ?_ ?_))
  intro k hk
  have hbk : befF f k ≤ 64 + 2000 * 140737488351232 ∧ f.senders ≤ befF f k := by have := hb2000 k hk; unfold befF; omega
  rcases Nat.lt_or_ge k f.lots.length with hlt | hge
  · have hd := ltd hlt
    have hbs := befF_succ hlt
    have hli := (hf.at k).li
    repeat' (first
      | (with_reducible refine aw_seq ?_)
      | ((with_reducible refine twoG_intro ?_ ?_) <;> intro hTw <;> first | (exact Bool.noConfusion hTw) | ((try simp only [hTw, Bool.not_true, Bool.not_false, Bool.true_and, Bool.false_and, Bool.and_true, Bool.and_false, Bool.true_or, Bool.false_or, Bool.or_true, Bool.or_false]); (first | (guard_hyp hTw : true = true; clear hTw) | (guard_hyp hTw : false = false; clear hTw) | (revert hTw; intro _))))
      | ((with_reducible refine two_intro ?_ ?_) <;> intro hTw <;> first | (exact Bool.noConfusion hTw) | ((first | (guard_hyp hTw : true = true; clear hTw) | (guard_hyp hTw : false = false; clear hTw) | (revert hTw; intro _))))
      | ((with_reducible refine And.intro ?_ ?_); (focus (first | exact keyOk_int_ | omega | rfl | decide | grind)))
      | (with_reducible refine aw_block ?_)
      | (with_reducible refine aw_scope ?_)
      | ((first
          | ((with_reducible refine aw_regionA T_ok ?_ ?_); (focus kernel_rfl))
          | ((with_reducible refine aw_drawnA T_ok ?_ ?_ ?_ ?_); (focus kernel_rfl); (focus kernel_rfl); (focus (decide +kernel)))
          | ((with_reducible refine aw_drawnF T_ok ?_ ?_ ?_ ?_); (focus kernel_rfl); (focus kernel_rfl); (focus (decide +kernel)))
          | (with_reducible refine aw_label ?_)
          | ((with_reducible refine aw_rfM ?_ ?_); (focus kernel_rfl))
          | (with_reducible refine aw_skip ?_)
          | (with_reducible refine aw_exit ?_)
          | ((with_reducible refine aw_condM ?_ ?_); (focus kernel_rfl))
          | (with_reducible refine aw_ret ?_)
        ); simp only [↓avP, avQ, if_true, if_false, forall_const, beq_self_eq_true, eq_self, ne_eq, implies_true, reduceIte, Nat.reduceEqDiff, Nat.reduceAdd, Nat.reduceSub, Int.reduceToNat, Nat.reduceLeDiff, Nat.reduceLT, reduceCtorEq, Int.reduceEq, retQ, retL, resV, RetV, RetOk, SubL, intD_B, lotD_B, flowD_B, snocI, ty_3, ty_27, ty_4, ty_39, ty_24, ty_43, ty_22, ty_65, ty_63, lkM_bool, upM_bool, boolV, boolV_getD, zip_bool, hd]; try simp (disch := omega) only [av_w, av_t1, av_tp, Int.toNat_natCast]))
    refine ⟨k + 1, by omega, by dsimp only; omega, wk_of [(0, some 0)] rfl rfl ?_ ?_⟩
    · simp only [wkT, wkB, wkB1, subV, subVs, subD, subB, lkN_n, lkN_c, lkT_n, lkT_c, lkB_n, lkB_c, if_true, if_false, reduceIte, Nat.reduceEqDiff, true_and, and_true, and_self, inT, ofA]
      rw [hbs]
      (repeat' (first | exact trivial | rfl | exact rfl | refine And.intro ?_ ?_))
    · simp only [wkT, wkB, wkB1, subV, subVs, subD, subB, lkN_n, lkN_c, lkT_n, lkT_c, lkB_n, lkB_c, if_true, if_false, reduceIte, Nat.reduceEqDiff, true_and, and_true, and_self, inT, ofA]
      (repeat' (first | exact trivial | rfl | exact rfl | refine And.intro ?_ ?_))
  obtain rfl : k = f.lots.length := by omega
  have hd := ged (Nat.le_refl f.lots.length)
  by_cases h2 : 50000 < befF f f.lots.length
  · have hc : checkF f = 2 := by unfold checkF; rw [if_pos (by omega)]
    rw [hc]
    have hd2 : decide (befF f f.lots.length > 50000) = true := decide_eq_true h2
    repeat' (first
      | (with_reducible refine aw_seq ?_)
      | ((with_reducible refine twoG_intro ?_ ?_) <;> intro hTw <;> first | (exact Bool.noConfusion hTw) | ((try simp only [hTw, Bool.not_true, Bool.not_false, Bool.true_and, Bool.false_and, Bool.and_true, Bool.and_false, Bool.true_or, Bool.false_or, Bool.or_true, Bool.or_false]); (first | (guard_hyp hTw : true = true; clear hTw) | (guard_hyp hTw : false = false; clear hTw) | (revert hTw; intro _))))
      | ((with_reducible refine two_intro ?_ ?_) <;> intro hTw <;> first | (exact Bool.noConfusion hTw) | ((first | (guard_hyp hTw : true = true; clear hTw) | (guard_hyp hTw : false = false; clear hTw) | (revert hTw; intro _))))
      | ((with_reducible refine And.intro ?_ ?_); (focus (first | exact keyOk_int_ | omega | rfl | decide | grind)))
      | (with_reducible refine aw_block ?_)
      | (with_reducible refine aw_scope ?_)
      | ((first
          | ((with_reducible refine aw_regionA T_ok ?_ ?_); (focus kernel_rfl))
          | ((with_reducible refine aw_drawnA T_ok ?_ ?_ ?_ ?_); (focus kernel_rfl); (focus kernel_rfl); (focus (decide +kernel)))
          | ((with_reducible refine aw_drawnF T_ok ?_ ?_ ?_ ?_); (focus kernel_rfl); (focus kernel_rfl); (focus (decide +kernel)))
          | (with_reducible refine aw_label ?_)
          | ((with_reducible refine aw_rfM ?_ ?_); (focus kernel_rfl))
          | (with_reducible refine aw_skip ?_)
          | (with_reducible refine aw_exit ?_)
          | ((with_reducible refine aw_condM ?_ ?_); (focus kernel_rfl))
          | (with_reducible refine aw_ret ?_)
        ); simp only [↓avP, avQ, if_true, if_false, forall_const, beq_self_eq_true, eq_self, ne_eq, implies_true, reduceIte, Nat.reduceEqDiff, Nat.reduceAdd, Nat.reduceSub, Int.reduceToNat, Nat.reduceLeDiff, Nat.reduceLT, reduceCtorEq, Int.reduceEq, retQ, retL, resV, RetV, RetOk, SubL, intD_B, lotD_B, flowD_B, snocI, ty_3, ty_27, ty_4, ty_39, ty_24, ty_43, ty_22, ty_65, ty_63, lkM_bool, upM_bool, boolV, boolV_getD, zip_bool, hd, hd2]; try simp (disch := omega) only [av_w, av_t1, av_tp, Int.toNat_natCast]))
    exact Sub.refl _
  have hd2 : decide (befF f f.lots.length > 50000) = false := decide_eq_false (by omega)
  by_cases h3 : f.senders < 0
  · have hc : checkF f = 250 := by unfold checkF; rw [if_neg (by omega), if_pos h3]
    rw [hc]
    have hd3 : decide (f.senders < 0) = true := decide_eq_true h3
    repeat' (first
      | (with_reducible refine aw_seq ?_)
      | ((with_reducible refine twoG_intro ?_ ?_) <;> intro hTw <;> first | (exact Bool.noConfusion hTw) | ((try simp only [hTw, Bool.not_true, Bool.not_false, Bool.true_and, Bool.false_and, Bool.and_true, Bool.and_false, Bool.true_or, Bool.false_or, Bool.or_true, Bool.or_false]); (first | (guard_hyp hTw : true = true; clear hTw) | (guard_hyp hTw : false = false; clear hTw) | (revert hTw; intro _))))
      | ((with_reducible refine two_intro ?_ ?_) <;> intro hTw <;> first | (exact Bool.noConfusion hTw) | ((first | (guard_hyp hTw : true = true; clear hTw) | (guard_hyp hTw : false = false; clear hTw) | (revert hTw; intro _))))
      | ((with_reducible refine And.intro ?_ ?_); (focus (first | exact keyOk_int_ | omega | rfl | decide | grind)))
      | (with_reducible refine aw_block ?_)
      | (with_reducible refine aw_scope ?_)
      | ((first
          | ((with_reducible refine aw_regionA T_ok ?_ ?_); (focus kernel_rfl))
          | ((with_reducible refine aw_drawnA T_ok ?_ ?_ ?_ ?_); (focus kernel_rfl); (focus kernel_rfl); (focus (decide +kernel)))
          | ((with_reducible refine aw_drawnF T_ok ?_ ?_ ?_ ?_); (focus kernel_rfl); (focus kernel_rfl); (focus (decide +kernel)))
          | (with_reducible refine aw_label ?_)
          | ((with_reducible refine aw_rfM ?_ ?_); (focus kernel_rfl))
          | (with_reducible refine aw_skip ?_)
          | (with_reducible refine aw_exit ?_)
          | ((with_reducible refine aw_condM ?_ ?_); (focus kernel_rfl))
          | (with_reducible refine aw_ret ?_)
        ); simp only [↓avP, avQ, if_true, if_false, forall_const, beq_self_eq_true, eq_self, ne_eq, implies_true, reduceIte, Nat.reduceEqDiff, Nat.reduceAdd, Nat.reduceSub, Int.reduceToNat, Nat.reduceLeDiff, Nat.reduceLT, reduceCtorEq, Int.reduceEq, retQ, retL, resV, RetV, RetOk, SubL, intD_B, lotD_B, flowD_B, snocI, ty_3, ty_27, ty_4, ty_39, ty_24, ty_43, ty_22, ty_65, ty_63, lkM_bool, upM_bool, boolV, boolV_getD, zip_bool, hd, hd2, hd3]; try simp (disch := omega) only [av_w, av_t1, av_tp, Int.toNat_natCast]))
    exact Sub.refl _
  have hd3 : decide (f.senders < 0) = false := decide_eq_false h3
  have hc : checkF f = if validF f = true then 0 else 250 := by unfold checkF; rw [if_neg (by omega), if_neg h3]
  repeat' (first
    | (with_reducible refine aw_seq ?_)
    | ((with_reducible refine twoG_intro ?_ ?_) <;> intro hTw <;> first | (exact Bool.noConfusion hTw) | ((try simp only [hTw, Bool.not_true, Bool.not_false, Bool.true_and, Bool.false_and, Bool.and_true, Bool.and_false, Bool.true_or, Bool.false_or, Bool.or_true, Bool.or_false]); (first | (guard_hyp hTw : true = true; clear hTw) | (guard_hyp hTw : false = false; clear hTw) | (revert hTw; intro _))))
    | ((with_reducible refine two_intro ?_ ?_) <;> intro hTw <;> first | (exact Bool.noConfusion hTw) | ((first | (guard_hyp hTw : true = true; clear hTw) | (guard_hyp hTw : false = false; clear hTw) | (revert hTw; intro _))))
    | ((with_reducible refine And.intro ?_ ?_); (focus (first | exact keyOk_int_ | omega | rfl | decide | grind)))
    | (with_reducible refine aw_block ?_)
    | (with_reducible refine aw_scope ?_)
    | ((first
        | ((with_reducible refine aw_regionA T_ok ?_ ?_); (focus kernel_rfl))
        | ((with_reducible refine aw_drawnA T_ok ?_ ?_ ?_ ?_); (focus kernel_rfl); (focus kernel_rfl); (focus (decide +kernel)))
        | ((with_reducible refine aw_drawnF T_ok ?_ ?_ ?_ ?_); (focus kernel_rfl); (focus kernel_rfl); (focus (decide +kernel)))
        | ((with_reducible apply callI_in T_ok Try.func49); (focus (dsimp only [Try.f49])); (focus rfl); (focus rfl); (focus kernel_rfl); (focus exact of_decide_eq_true (by kernel_rfl)); (focus kernel_rfl); (focus kernel_rfl); intro _)
        | (with_reducible refine aw_label ?_)
        | ((with_reducible refine aw_rfM ?_ ?_); (focus kernel_rfl))
        | (with_reducible refine aw_skip ?_)
        | (with_reducible refine aw_exit ?_)
        | ((with_reducible refine aw_condM ?_ ?_); (focus kernel_rfl))
        | (with_reducible refine aw_ret ?_)
      ); simp only [↓avP, avQ, if_true, if_false, forall_const, beq_self_eq_true, eq_self, ne_eq, implies_true, reduceIte, Nat.reduceEqDiff, Nat.reduceAdd, Nat.reduceSub, Int.reduceToNat, Nat.reduceLeDiff, Nat.reduceLT, reduceCtorEq, Int.reduceEq, retQ, retL, resV, RetV, RetOk, SubL, intD_B, lotD_B, flowD_B, snocI, ty_3, ty_27, ty_4, ty_39, ty_24, ty_43, ty_22, ty_65, ty_63, lkM_bool, upM_bool, boolV, boolV_getD, zip_bool, hd, hd2, hd3]; try simp (disch := omega) only [av_w, av_t1, av_tp, Int.toNat_natCast]))
  refine aw_loopI (fun k : Nat => ⟨[(6, .ptr 2 0), (7, .fn 72 [.ptr 3 0]), (49, .d (.sl 3 (lotD default) (f.lots.map lotD))), (50, vI f.lots.length), (51, vI k)],
    [(3, .cells 3 [vI (befF f k)]), (2, .cells 39 [.mp 1]), (1, .map .i 3 (.bool false) (boolV false) (mpV boolV (metM (goneF f k))))], 4⟩)
    (fun k => k ≤ f.lots.length ∧ ∀ i, i < k → okAt f i = true) (fun k => f.lots.length - k) 0 ⟨Nat.zero_le _, fun i hi => absurd hi (Nat.not_lt_zero i)⟩ (wk_of [(3, some 3), (2, some 2), (1, some 1)] rfl rfl ?_ ?_) ?_
  · simp only [wkT, wkB, wkB1, subV, subVs, subD, subB, lkN_n, lkN_c, lkT_n, lkT_c, lkB_n, lkB_c, if_true, if_false, reduceIte, Nat.reduceEqDiff, true_and, and_true, and_self, inT, ofA]
    (repeat' (first | exact trivial | rfl | exact rfl | refine And.intro ?_ ?_))
  · simp only [wkT, wkB, wkB1, subV, subVs, subD, subB, lkN_n, lkN_c, lkT_n, lkT_c, lkB_n, lkB_c, if_true, if_false, reduceIte, Nat.reduceEqDiff, true_and, and_true, and_self, inT, ofA]
    simp [befF, goneF, metM, boolV, subV, subD, subM, mpV_nil]
  rintro k ⟨hk, h0⟩
  have hbk : befF f k ≤ 50000 ∧ 0 ≤ befF f k := by have := befF_mono hk; omega
  rcases Nat.lt_or_ge k f.lots.length with hlt | hge
  · have hd := ltd hlt
    have hbs := befF_succ hlt
    have hgs := goneF_succ hlt
    have hok := hf.at k
    have hokd : okAt f k = lotB (befF f k) (goneF f k) (f.lots.getD k default) := rfl
    obtain ⟨x, hx⟩ : ∃ x, x = f.lots.getD k default := ⟨_, rfl⟩
    rw [← hx] at hbs hgs hok hokd
    have hbad : okAt f k = false → validF f = false := fun h => by
      unfold validF
      rw [List.all_eq_false]
      exact ⟨k, by simpa using hlt, by rw [h]; simp⟩
    have hli := hok.li
    have hlp := hok.lp
    have hdf := different_spec x.inn (freeB (befF f k) (goneF f k)) hok.li hok.inn
    have hdp := different_spec x.perm (outB x.inn.length) hok.lp hok.perm
    have hfr : ∀ asA r, FnD aI (freeB (befF f k) (goneF f k)) asA r → Spec Try.prog 50 (asA ++ [.one (.pt [.c (.int .i64 (befF f k))]), .one (.pt [mpB (metM (goneF f k))])]) r := by
      rintro asA r ⟨s, rfl, rfl⟩
      exact fcheck1_spec (befF f k) (goneF f k) s (by omega)
    have hou : ∀ asA r, FnD aI (outB x.inn.length) asA r → Spec Try.prog 52 (asA ++ [.one (.pt [.c (.int .i64 x.inn.length)])]) r := by
      rintro asA r ⟨s, rfl, rfl⟩
      exact fcheck2_spec _ s
    unfold mpB at hfr
    have hsub : befF f k + (x.inn.length : Int) - (x.inn.length : Int) = befF f k := by omega
    have hend : okAt f k = false → checkF f = 250 := fun h => by rw [hc, if_neg (by rw [hbad h]; simp)]
    by_cases hn : x.inn.length = 0
    · have hdn : ((x.inn.length : Int) == 0) = true := by rw [hn]; rfl
      repeat' (first
        | (with_reducible refine aw_seq ?_)
        | ((with_reducible refine twoG_intro ?_ ?_) <;> intro hTw <;> first | (exact Bool.noConfusion hTw) | ((try simp only [hTw, Bool.not_true, Bool.not_false, Bool.true_and, Bool.false_and, Bool.and_true, Bool.and_false, Bool.true_or, Bool.false_or, Bool.or_true, Bool.or_false]); (first | (guard_hyp hTw : true = true; clear hTw) | (guard_hyp hTw : false = false; clear hTw) | (revert hTw; intro _))))
        | ((with_reducible refine two_intro ?_ ?_) <;> intro hTw <;> first | (exact Bool.noConfusion hTw) | ((first | (guard_hyp hTw : true = true; clear hTw) | (guard_hyp hTw : false = false; clear hTw) | (revert hTw; intro _))))
        | ((with_reducible refine And.intro ?_ ?_); (focus (first | exact keyOk_int_ | omega | rfl | decide | grind)))
        | (with_reducible refine aw_block ?_)
        | (with_reducible refine aw_scope ?_)
        | ((first
            | ((with_reducible refine aw_regionA T_ok ?_ ?_); (focus kernel_rfl))
            | ((with_reducible refine aw_drawnA T_ok ?_ ?_ ?_ ?_); (focus kernel_rfl); (focus kernel_rfl); (focus (decide +kernel)))
            | ((with_reducible refine aw_drawnF T_ok ?_ ?_ ?_ ?_); (focus kernel_rfl); (focus kernel_rfl); (focus (decide +kernel)))
            | ((with_reducible apply callI_in T_ok Try.func72); (focus (dsimp only [Try.f72])); (focus rfl); (focus rfl); (focus kernel_rfl); (focus exact of_decide_eq_true (by kernel_rfl)); (focus kernel_rfl); (focus kernel_rfl); intro _)
            | ((with_reducible refine callK_fz (hdf) rfl ?_ ?_ ?_); (focus (repeat' (first | (exact FzA.nil) | (exact FzL.nil) | (exact FzLL.nil) | (exact FzLL_dV _) | (exact Fz.d rfl) | (refine FzA.one ?_ ?_) | (refine FzA.agg ?_ ?_) | (refine FzL.cons ?_ ?_) | (refine FzLL.cons ?_ ?_) | (exact hfr) | (exact FzL_bool _) | (exact (mpV_keys _ _).symm) | (refine Fz.fn ?_ (by kernel_rfl) (hfr)) | (refine Fz.fn ?_ (by kernel_rfl) (FzL_bool _)) | (refine Fz.fn ?_ (by kernel_rfl) ((mpV_keys _ _).symm)) | (refine Fz.fc (by kernel_rfl) (hfr)) | (refine Fz.fc (by kernel_rfl) (FzL_bool _)) | (refine Fz.fc (by kernel_rfl) ((mpV_keys _ _).symm)) | (refine Fz.pt rfl ?_) | (refine Fz.mp rfl ?_ ?_ ?_) | (refine Fz.row rfl ?_) | (refine Fz.ag ?_))); done); (focus kernel_rfl))
            | ((with_reducible refine callI_fz (hdf) rfl ?_ ?_ ?_ ?_); (focus (repeat' (first | (exact FzA.nil) | (exact FzL.nil) | (exact FzLL.nil) | (exact FzLL_dV _) | (exact Fz.d rfl) | (refine FzA.one ?_ ?_) | (refine FzA.agg ?_ ?_) | (refine FzL.cons ?_ ?_) | (refine FzLL.cons ?_ ?_) | (exact hfr) | (exact FzL_bool _) | (exact (mpV_keys _ _).symm) | (refine Fz.fn ?_ (by kernel_rfl) (hfr)) | (refine Fz.fn ?_ (by kernel_rfl) (FzL_bool _)) | (refine Fz.fn ?_ (by kernel_rfl) ((mpV_keys _ _).symm)) | (refine Fz.fc (by kernel_rfl) (hfr)) | (refine Fz.fc (by kernel_rfl) (FzL_bool _)) | (refine Fz.fc (by kernel_rfl) ((mpV_keys _ _).symm)) | (refine Fz.pt rfl ?_) | (refine Fz.mp rfl ?_ ?_ ?_) | (refine Fz.row rfl ?_) | (refine Fz.ag ?_))); done); (focus kernel_rfl); (focus kernel_rfl))
            | (with_reducible refine aw_label ?_)
            | ((with_reducible refine aw_rfM ?_ ?_); (focus kernel_rfl))
            | (with_reducible refine aw_skip ?_)
            | (with_reducible refine aw_exit ?_)
            | ((with_reducible refine aw_condM ?_ ?_); (focus kernel_rfl))
            | (with_reducible refine aw_ret ?_)
          ); simp only [↓avP, avQ, if_true, if_false, forall_const, beq_self_eq_true, eq_self, ne_eq, implies_true, reduceIte, Nat.reduceEqDiff, Nat.reduceAdd, Nat.reduceSub, Int.reduceToNat, Nat.reduceLeDiff, Nat.reduceLT, reduceCtorEq, Int.reduceEq, retQ, retL, resV, RetV, RetOk, SubL, intD_B, lotD_B, flowD_B, snocI, ty_3, ty_27, ty_4, ty_39, ty_24, ty_43, ty_22, ty_65, ty_63, lkM_bool, upM_bool, boolV, boolV_getD, zip_bool, hd, ← hx, hdn, hsub]; try simp (disch := omega) only [av_w, av_t1, av_tp, Int.toNat_natCast]))
      exact Sub.of_eq (congrArg aI (hend (by rw [hokd, lotB, decide_eq_false (by omega)]; simp)).symm)
    have hdn : ((x.inn.length : Int) == 0) = false := by simp; exact fun e => hn (by rw [e]; rfl)
    cases hdi : diffB (freeB (befF f k) (goneF f k)) x.inn with
    | false =>
      repeat' (first
        | (with_reducible refine aw_seq ?_)
        | ((with_reducible refine twoG_intro ?_ ?_) <;> intro hTw <;> first | (exact Bool.noConfusion hTw) | ((try simp only [hTw, Bool.not_true, Bool.not_false, Bool.true_and, Bool.false_and, Bool.and_true, Bool.and_false, Bool.true_or, Bool.false_or, Bool.or_true, Bool.or_false]); (first | (guard_hyp hTw : true = true; clear hTw) | (guard_hyp hTw : false = false; clear hTw) | (revert hTw; intro _))))
        | ((with_reducible refine two_intro ?_ ?_) <;> intro hTw <;> first | (exact Bool.noConfusion hTw) | ((first | (guard_hyp hTw : true = true; clear hTw) | (guard_hyp hTw : false = false; clear hTw) | (revert hTw; intro _))))
        | ((with_reducible refine And.intro ?_ ?_); (focus (first | exact keyOk_int_ | omega | rfl | decide | grind)))
        | (with_reducible refine aw_block ?_)
        | (with_reducible refine aw_scope ?_)
        | ((first
            | ((with_reducible refine aw_regionA T_ok ?_ ?_); (focus kernel_rfl))
            | ((with_reducible refine aw_drawnA T_ok ?_ ?_ ?_ ?_); (focus kernel_rfl); (focus kernel_rfl); (focus (decide +kernel)))
            | ((with_reducible refine aw_drawnF T_ok ?_ ?_ ?_ ?_); (focus kernel_rfl); (focus kernel_rfl); (focus (decide +kernel)))
            | ((with_reducible apply callI_in T_ok Try.func72); (focus (dsimp only [Try.f72])); (focus rfl); (focus rfl); (focus kernel_rfl); (focus exact of_decide_eq_true (by kernel_rfl)); (focus kernel_rfl); (focus kernel_rfl); intro _)
            | ((with_reducible refine callK_fz (hdf) rfl ?_ ?_ ?_); (focus (repeat' (first | (exact FzA.nil) | (exact FzL.nil) | (exact FzLL.nil) | (exact FzLL_dV _) | (exact Fz.d rfl) | (refine FzA.one ?_ ?_) | (refine FzA.agg ?_ ?_) | (refine FzL.cons ?_ ?_) | (refine FzLL.cons ?_ ?_) | (exact hfr) | (exact FzL_bool _) | (exact (mpV_keys _ _).symm) | (refine Fz.fn ?_ (by kernel_rfl) (hfr)) | (refine Fz.fn ?_ (by kernel_rfl) (FzL_bool _)) | (refine Fz.fn ?_ (by kernel_rfl) ((mpV_keys _ _).symm)) | (refine Fz.fc (by kernel_rfl) (hfr)) | (refine Fz.fc (by kernel_rfl) (FzL_bool _)) | (refine Fz.fc (by kernel_rfl) ((mpV_keys _ _).symm)) | (refine Fz.pt rfl ?_) | (refine Fz.mp rfl ?_ ?_ ?_) | (refine Fz.row rfl ?_) | (refine Fz.ag ?_))); done); (focus kernel_rfl))
            | ((with_reducible refine callI_fz (hdf) rfl ?_ ?_ ?_ ?_); (focus (repeat' (first | (exact FzA.nil) | (exact FzL.nil) | (exact FzLL.nil) | (exact FzLL_dV _) | (exact Fz.d rfl) | (refine FzA.one ?_ ?_) | (refine FzA.agg ?_ ?_) | (refine FzL.cons ?_ ?_) | (refine FzLL.cons ?_ ?_) | (exact hfr) | (exact FzL_bool _) | (exact (mpV_keys _ _).symm) | (refine Fz.fn ?_ (by kernel_rfl) (hfr)) | (refine Fz.fn ?_ (by kernel_rfl) (FzL_bool _)) | (refine Fz.fn ?_ (by kernel_rfl) ((mpV_keys _ _).symm)) | (refine Fz.fc (by kernel_rfl) (hfr)) | (refine Fz.fc (by kernel_rfl) (FzL_bool _)) | (refine Fz.fc (by kernel_rfl) ((mpV_keys _ _).symm)) | (refine Fz.pt rfl ?_) | (refine Fz.mp rfl ?_ ?_ ?_) | (refine Fz.row rfl ?_) | (refine Fz.ag ?_))); done); (focus kernel_rfl); (focus kernel_rfl))
            | (with_reducible refine aw_label ?_)
            | ((with_reducible refine aw_rfM ?_ ?_); (focus kernel_rfl))
            | (with_reducible refine aw_skip ?_)
            | (with_reducible refine aw_exit ?_)
            | ((with_reducible refine aw_condM ?_ ?_); (focus kernel_rfl))
            | (with_reducible refine aw_ret ?_)
          ); simp only [↓avP, avQ, if_true, if_false, forall_const, beq_self_eq_true, eq_self, ne_eq, implies_true, reduceIte, Nat.reduceEqDiff, Nat.reduceAdd, Nat.reduceSub, Int.reduceToNat, Nat.reduceLeDiff, Nat.reduceLT, reduceCtorEq, Int.reduceEq, retQ, retL, resV, RetV, RetOk, SubL, intD_B, lotD_B, flowD_B, snocI, ty_3, ty_27, ty_4, ty_39, ty_24, ty_43, ty_22, ty_65, ty_63, lkM_bool, upM_bool, boolV, boolV_getD, zip_bool, hd, ← hx, hdn, hsub, hdi]; try simp (disch := omega) only [av_w, av_t1, av_tp, Int.toNat_natCast]))
      exact Sub.of_eq (congrArg aI (hend (by rw [hokd, lotB, hdi]; simp)).symm)
    | true =>
      repeat' (first
        | (with_reducible refine aw_seq ?_)
        | ((with_reducible refine twoG_intro ?_ ?_) <;> intro hTw <;> first | (exact Bool.noConfusion hTw) | ((try simp only [hTw, Bool.not_true, Bool.not_false, Bool.true_and, Bool.false_and, Bool.and_true, Bool.and_false, Bool.true_or, Bool.false_or, Bool.or_true, Bool.or_false]); (first | (guard_hyp hTw : true = true; clear hTw) | (guard_hyp hTw : false = false; clear hTw) | (revert hTw; intro _))))
        | ((with_reducible refine two_intro ?_ ?_) <;> intro hTw <;> first | (exact Bool.noConfusion hTw) | ((first | (guard_hyp hTw : true = true; clear hTw) | (guard_hyp hTw : false = false; clear hTw) | (revert hTw; intro _))))
        | ((with_reducible refine And.intro ?_ ?_); (focus (first | exact keyOk_int_ | omega | rfl | decide | grind)))
        | (with_reducible refine aw_block ?_)
        | (with_reducible refine aw_scope ?_)
        | ((first
            | ((with_reducible refine aw_regionA T_ok ?_ ?_); (focus kernel_rfl))
            | ((with_reducible refine aw_drawnA T_ok ?_ ?_ ?_ ?_); (focus kernel_rfl); (focus kernel_rfl); (focus (decide +kernel)))
            | ((with_reducible refine aw_drawnF T_ok ?_ ?_ ?_ ?_); (focus kernel_rfl); (focus kernel_rfl); (focus (decide +kernel)))
            | ((with_reducible apply callI_in T_ok Try.func72); (focus (dsimp only [Try.f72])); (focus rfl); (focus rfl); (focus kernel_rfl); (focus exact of_decide_eq_true (by kernel_rfl)); (focus kernel_rfl); (focus kernel_rfl); intro _)
            | ((with_reducible refine callK_fz (hdf) rfl ?_ ?_ ?_); (focus (repeat' (first | (exact FzA.nil) | (exact FzL.nil) | (exact FzLL.nil) | (exact FzLL_dV _) | (exact Fz.d rfl) | (refine FzA.one ?_ ?_) | (refine FzA.agg ?_ ?_) | (refine FzL.cons ?_ ?_) | (refine FzLL.cons ?_ ?_) | (exact hfr) | (exact FzL_bool _) | (exact (mpV_keys _ _).symm) | (refine Fz.fn ?_ (by kernel_rfl) (hfr)) | (refine Fz.fn ?_ (by kernel_rfl) (FzL_bool _)) | (refine Fz.fn ?_ (by kernel_rfl) ((mpV_keys _ _).symm)) | (refine Fz.fc (by kernel_rfl) (hfr)) | (refine Fz.fc (by kernel_rfl) (FzL_bool _)) | (refine Fz.fc (by kernel_rfl) ((mpV_keys _ _).symm)) | (refine Fz.pt rfl ?_) | (refine Fz.mp rfl ?_ ?_ ?_) | (refine Fz.row rfl ?_) | (refine Fz.ag ?_))); done); (focus kernel_rfl))
            | ((with_reducible refine callI_fz (hdf) rfl ?_ ?_ ?_ ?_); (focus (repeat' (first | (exact FzA.nil) | (exact FzL.nil) | (exact FzLL.nil) | (exact FzLL_dV _) | (exact Fz.d rfl) | (refine FzA.one ?_ ?_) | (refine FzA.agg ?_ ?_) | (refine FzL.cons ?_ ?_) | (refine FzLL.cons ?_ ?_) | (exact hfr) | (exact FzL_bool _) | (exact (mpV_keys _ _).symm) | (refine Fz.fn ?_ (by kernel_rfl) (hfr)) | (refine Fz.fn ?_ (by kernel_rfl) (FzL_bool _)) | (refine Fz.fn ?_ (by kernel_rfl) ((mpV_keys _ _).symm)) | (refine Fz.fc (by kernel_rfl) (hfr)) | (refine Fz.fc (by kernel_rfl) (FzL_bool _)) | (refine Fz.fc (by kernel_rfl) ((mpV_keys _ _).symm)) | (refine Fz.pt rfl ?_) | (refine Fz.mp rfl ?_ ?_ ?_) | (refine Fz.row rfl ?_) | (refine Fz.ag ?_))); done); (focus kernel_rfl); (focus kernel_rfl))
            | (with_reducible refine aw_label ?_)
            | ((with_reducible refine aw_rfM ?_ ?_); (focus kernel_rfl))
            | (with_reducible refine aw_skip ?_)
            | (with_reducible refine aw_exit ?_)
            | ((with_reducible refine aw_condM ?_ ?_); (focus kernel_rfl))
            | (with_reducible refine aw_ret ?_)
          ); simp only [↓avP, avQ, if_true, if_false, forall_const, beq_self_eq_true, eq_self, ne_eq, implies_true, reduceIte, Nat.reduceEqDiff, Nat.reduceAdd, Nat.reduceSub, Int.reduceToNat, Nat.reduceLeDiff, Nat.reduceLT, reduceCtorEq, Int.reduceEq, retQ, retL, resV, RetV, RetOk, SubL, intD_B, lotD_B, flowD_B, snocI, ty_3, ty_27, ty_4, ty_39, ty_24, ty_43, ty_22, ty_65, ty_63, lkM_bool, upM_bool, boolV, boolV_getD, zip_bool, hd, ← hx, hdn, hsub, hdi]; try simp (disch := omega) only [av_w, av_t1, av_tp, Int.toNat_natCast]))
      refine aw_loopI (fun j : Nat => ⟨[(6, .ptr 2 0), (7, .fn 72 [.ptr 3 0]), (9, .ptr 4 0), (10, .ptr 5 0), (49, .d (.sl 3 (lotD default) (f.lots.map lotD))), (50, vI f.lots.length), (51, vI k), (72, vIs x.inn), (73, vI x.inn.length), (74, vI j)],
        [(5, .cells 3 [vI x.inn.length]), (4, .cells 43 (dV (lotD x))), (3, .cells 3 [vI (befF f k + x.inn.length)]), (2, .cells 39 [.mp 1]), (1, .map .i 3 (.bool false) (boolV false) (mpV boolV (metM (goneF f k ++ x.inn.take j))))], 6⟩)
        (fun j => j ≤ x.inn.length) (fun j => x.inn.length - j) 0 (Nat.zero_le _) (wk_of [(5, some 5), (4, some 4), (3, some 3), (2, some 2), (1, some 1)] rfl rfl ?_ ?_) ?_
      · simp only [wkT, wkB, wkB1, subV, subVs, subD, subB, lkN_n, lkN_c, lkT_n, lkT_c, lkB_n, lkB_c, if_true, if_false, reduceIte, Nat.reduceEqDiff, true_and, and_true, and_self, inT, ofA]
        (repeat' (first | exact trivial | rfl | exact rfl | refine And.intro ?_ ?_))
      · simp only [wkT, wkB, wkB1, subV, subVs, subD, subB, lkN_n, lkN_c, lkT_n, lkT_c, lkB_n, lkB_c, if_true, if_false, reduceIte, Nat.reduceEqDiff, true_and, and_true, and_self, inT, ofA]
        rw [List.take_zero, List.append_nil]
        (repeat' (first | exact subM_mpV (subV_bool _) rfl | exact trivial | rfl | exact rfl | exact subVs_d _ _ | exact subVs_dm _ _ | exact subD_refl _ | refine And.intro ?_ ?_))
      intro j hj
      rcases Nat.lt_or_ge j x.inn.length with hjlt | hjge
      · have hd2 := ltd hjlt
        have hxi := hok.inn _ (getD_mem hjlt)
        have hmt : metM (goneF f k ++ x.inn.take (j + 1)) = upA [x.inn.getD j 0] true (metM (goneF f k ++ x.inn.take j)) := by
          rw [List.take_succ_eq_append_getElem hjlt, ← List.append_assoc, metM_succ]
          have : x.inn.getD j 0 = x.inn[j] := by simp [List.getD, hjlt]
          rw [this]
        repeat' (first
          | (with_reducible refine aw_seq ?_)
          | ((with_reducible refine twoG_intro ?_ ?_) <;> intro hTw <;> first | (exact Bool.noConfusion hTw) | ((try simp only [hTw, Bool.not_true, Bool.not_false, Bool.true_and, Bool.false_and, Bool.and_true, Bool.and_false, Bool.true_or, Bool.false_or, Bool.or_true, Bool.or_false]); (first | (guard_hyp hTw : true = true; clear hTw) | (guard_hyp hTw : false = false; clear hTw) | (revert hTw; intro _))))
          | ((with_reducible refine two_intro ?_ ?_) <;> intro hTw <;> first | (exact Bool.noConfusion hTw) | ((first | (guard_hyp hTw : true = true; clear hTw) | (guard_hyp hTw : false = false; clear hTw) | (revert hTw; intro _))))
          | ((with_reducible refine And.intro ?_ ?_); (focus (first | exact keyOk_int_ | omega | rfl | decide | grind)))
          | (with_reducible refine aw_block ?_)
          | (with_reducible refine aw_scope ?_)
          | ((first
              | ((with_reducible refine aw_regionA T_ok ?_ ?_); (focus kernel_rfl))
              | ((with_reducible refine aw_drawnA T_ok ?_ ?_ ?_ ?_); (focus kernel_rfl); (focus kernel_rfl); (focus (decide +kernel)))
              | ((with_reducible refine aw_drawnF T_ok ?_ ?_ ?_ ?_); (focus kernel_rfl); (focus kernel_rfl); (focus (decide +kernel)))
              | (with_reducible refine aw_label ?_)
              | ((with_reducible refine aw_rfM ?_ ?_); (focus kernel_rfl))
              | (with_reducible refine aw_skip ?_)
              | (with_reducible refine aw_exit ?_)
              | ((with_reducible refine aw_condM ?_ ?_); (focus kernel_rfl))
              | (with_reducible refine aw_ret ?_)
            ); simp only [↓avP, avQ, if_true, if_false, forall_const, beq_self_eq_true, eq_self, ne_eq, implies_true, reduceIte, Nat.reduceEqDiff, Nat.reduceAdd, Nat.reduceSub, Int.reduceToNat, Nat.reduceLeDiff, Nat.reduceLT, reduceCtorEq, Int.reduceEq, retQ, retL, resV, RetV, RetOk, SubL, intD_B, lotD_B, flowD_B, snocI, ty_3, ty_27, ty_4, ty_39, ty_24, ty_43, ty_22, ty_65, ty_63, lkM_bool, upM_bool, boolV, boolV_getD, zip_bool, hd2]; try simp (disch := omega) only [av_w, av_t1, av_tp, Int.toNat_natCast]))
        refine ⟨j + 1, by omega, by dsimp only; omega, wk_of [(5, some 5), (4, some 4), (3, some 3), (2, some 2), (1, some 1)] rfl rfl ?_ ?_⟩
        · simp only [wkT, wkB, wkB1, subV, subVs, subD, subB, lkN_n, lkN_c, lkT_n, lkT_c, lkB_n, lkB_c, if_true, if_false, reduceIte, Nat.reduceEqDiff, true_and, and_true, and_self, inT, ofA]
          (repeat' (first | exact trivial | rfl | exact rfl | exact subVs_d _ _ | exact subVs_dm _ _ | exact subD_refl _ | refine And.intro ?_ ?_))
        · simp only [wkT, wkB, wkB1, subV, subVs, subD, subB, lkN_n, lkN_c, lkT_n, lkT_c, lkB_n, lkB_c, if_true, if_false, reduceIte, Nat.reduceEqDiff, true_and, and_true, and_self, inT, ofA]
          (repeat' (first | exact subM_mpV (subV_bool _) hmt.symm | exact trivial | rfl | exact rfl | exact subVs_d _ _ | exact subVs_dm _ _ | exact subD_refl _ | refine And.intro ?_ ?_))
      · obtain rfl : j = x.inn.length := by omega
        have hd2 := ged (Nat.le_refl x.inn.length)
        rw [List.take_length, ← hgs]
        cases hxk : x.known with
        | true =>
          by_cases hpl : x.perm.length = x.inn.length
          · have hdpl : ((x.perm.length : Int) != (x.inn.length : Int)) = false := by rw [hpl]; simp
            cases hdp2 : diffB (outB x.inn.length) x.perm
            · repeat' (first
                | (with_reducible refine aw_seq ?_)
                | ((with_reducible refine twoG_intro ?_ ?_) <;> intro hTw <;> first | (exact Bool.noConfusion hTw) | ((try simp only [hTw, Bool.not_true, Bool.not_false, Bool.true_and, Bool.false_and, Bool.and_true, Bool.and_false, Bool.true_or, Bool.false_or, Bool.or_true, Bool.or_false]); (first | (guard_hyp hTw : true = true; clear hTw) | (guard_hyp hTw : false = false; clear hTw) | (revert hTw; intro _))))
                | ((with_reducible refine two_intro ?_ ?_) <;> intro hTw <;> first | (exact Bool.noConfusion hTw) | ((first | (guard_hyp hTw : true = true; clear hTw) | (guard_hyp hTw : false = false; clear hTw) | (revert hTw; intro _))))
                | ((with_reducible refine And.intro ?_ ?_); (focus (first | exact keyOk_int_ | omega | rfl | decide | grind)))
                | (with_reducible refine aw_block ?_)
                | (with_reducible refine aw_scope ?_)
                | ((first
                    | ((with_reducible refine aw_regionA T_ok ?_ ?_); (focus kernel_rfl))
                    | ((with_reducible refine aw_drawnA T_ok ?_ ?_ ?_ ?_); (focus kernel_rfl); (focus kernel_rfl); (focus (decide +kernel)))
                    | ((with_reducible refine aw_drawnF T_ok ?_ ?_ ?_ ?_); (focus kernel_rfl); (focus kernel_rfl); (focus (decide +kernel)))
                    | ((with_reducible refine callK_fz (hdp) rfl ?_ ?_ ?_); (focus (repeat' (first | (exact FzA.nil) | (exact FzL.nil) | (exact FzLL.nil) | (exact FzLL_dV _) | (exact Fz.d rfl) | (refine FzA.one ?_ ?_) | (refine FzA.agg ?_ ?_) | (refine FzL.cons ?_ ?_) | (refine FzLL.cons ?_ ?_) | (exact hou) | (refine Fz.fn ?_ (by kernel_rfl) (hou)) | (refine Fz.fc (by kernel_rfl) (hou)) | (refine Fz.pt rfl ?_) | (refine Fz.mp rfl ?_ ?_ ?_) | (refine Fz.row rfl ?_) | (refine Fz.ag ?_))); done); (focus kernel_rfl))
                    | ((with_reducible refine callI_fz (hdp) rfl ?_ ?_ ?_ ?_); (focus (repeat' (first | (exact FzA.nil) | (exact FzL.nil) | (exact FzLL.nil) | (exact FzLL_dV _) | (exact Fz.d rfl) | (refine FzA.one ?_ ?_) | (refine FzA.agg ?_ ?_) | (refine FzL.cons ?_ ?_) | (refine FzLL.cons ?_ ?_) | (exact hou) | (refine Fz.fn ?_ (by kernel_rfl) (hou)) | (refine Fz.fc (by kernel_rfl) (hou)) | (refine Fz.pt rfl ?_) | (refine Fz.mp rfl ?_ ?_ ?_) | (refine Fz.row rfl ?_) | (refine Fz.ag ?_))); done); (focus kernel_rfl); (focus kernel_rfl))
                    | (with_reducible refine aw_label ?_)
                    | ((with_reducible refine aw_rfM ?_ ?_); (focus kernel_rfl))
                    | (with_reducible refine aw_skip ?_)
                    | (with_reducible refine aw_exit ?_)
                    | ((with_reducible refine aw_condM ?_ ?_); (focus kernel_rfl))
                    | (with_reducible refine aw_ret ?_)
                  ); simp only [↓avP, avQ, if_true, if_false, forall_const, beq_self_eq_true, eq_self, ne_eq, implies_true, reduceIte, Nat.reduceEqDiff, Nat.reduceAdd, Nat.reduceSub, Int.reduceToNat, Nat.reduceLeDiff, Nat.reduceLT, reduceCtorEq, Int.reduceEq, retQ, retL, resV, RetV, RetOk, SubL, intD_B, lotD_B, flowD_B, snocI, ty_3, ty_27, ty_4, ty_39, ty_24, ty_43, ty_22, ty_65, ty_63, lkM_bool, upM_bool, boolV, boolV_getD, zip_bool, hd2, hxk, hdpl, hdp2]; try simp (disch := omega) only [av_w, av_t1, av_tp, Int.toNat_natCast]))
              exact Sub.of_eq (congrArg aI (hend (by rw [hokd, lotB]; simp [hxk, hdp2, hpl])).symm)
            · repeat' (first
                | (with_reducible refine aw_seq ?_)
                | ((with_reducible refine twoG_intro ?_ ?_) <;> intro hTw <;> first | (exact Bool.noConfusion hTw) | ((try simp only [hTw, Bool.not_true, Bool.not_false, Bool.true_and, Bool.false_and, Bool.and_true, Bool.and_false, Bool.true_or, Bool.false_or, Bool.or_true, Bool.or_false]); (first | (guard_hyp hTw : true = true; clear hTw) | (guard_hyp hTw : false = false; clear hTw) | (revert hTw; intro _))))
                | ((with_reducible refine two_intro ?_ ?_) <;> intro hTw <;> first | (exact Bool.noConfusion hTw) | ((first | (guard_hyp hTw : true = true; clear hTw) | (guard_hyp hTw : false = false; clear hTw) | (revert hTw; intro _))))
                | ((with_reducible refine And.intro ?_ ?_); (focus (first | exact keyOk_int_ | omega | rfl | decide | grind)))
                | (with_reducible refine aw_block ?_)
                | (with_reducible refine aw_scope ?_)
                | ((first
                    | ((with_reducible refine aw_regionA T_ok ?_ ?_); (focus kernel_rfl))
                    | ((with_reducible refine aw_drawnA T_ok ?_ ?_ ?_ ?_); (focus kernel_rfl); (focus kernel_rfl); (focus (decide +kernel)))
                    | ((with_reducible refine aw_drawnF T_ok ?_ ?_ ?_ ?_); (focus kernel_rfl); (focus kernel_rfl); (focus (decide +kernel)))
                    | ((with_reducible refine callK_fz (hdp) rfl ?_ ?_ ?_); (focus (repeat' (first | (exact FzA.nil) | (exact FzL.nil) | (exact FzLL.nil) | (exact FzLL_dV _) | (exact Fz.d rfl) | (refine FzA.one ?_ ?_) | (refine FzA.agg ?_ ?_) | (refine FzL.cons ?_ ?_) | (refine FzLL.cons ?_ ?_) | (exact hou) | (refine Fz.fn ?_ (by kernel_rfl) (hou)) | (refine Fz.fc (by kernel_rfl) (hou)) | (refine Fz.pt rfl ?_) | (refine Fz.mp rfl ?_ ?_ ?_) | (refine Fz.row rfl ?_) | (refine Fz.ag ?_))); done); (focus kernel_rfl))
                    | ((with_reducible refine callI_fz (hdp) rfl ?_ ?_ ?_ ?_); (focus (repeat' (first | (exact FzA.nil) | (exact FzL.nil) | (exact FzLL.nil) | (exact FzLL_dV _) | (exact Fz.d rfl) | (refine FzA.one ?_ ?_) | (refine FzA.agg ?_ ?_) | (refine FzL.cons ?_ ?_) | (refine FzLL.cons ?_ ?_) | (exact hou) | (refine Fz.fn ?_ (by kernel_rfl) (hou)) | (refine Fz.fc (by kernel_rfl) (hou)) | (refine Fz.pt rfl ?_) | (refine Fz.mp rfl ?_ ?_ ?_) | (refine Fz.row rfl ?_) | (refine Fz.ag ?_))); done); (focus kernel_rfl); (focus kernel_rfl))
                    | (with_reducible refine aw_label ?_)
                    | ((with_reducible refine aw_rfM ?_ ?_); (focus kernel_rfl))
                    | (with_reducible refine aw_skip ?_)
                    | (with_reducible refine aw_exit ?_)
                    | ((with_reducible refine aw_condM ?_ ?_); (focus kernel_rfl))
                    | (with_reducible refine aw_ret ?_)
                  ); simp only [↓avP, avQ, if_true, if_false, forall_const, beq_self_eq_true, eq_self, ne_eq, implies_true, reduceIte, Nat.reduceEqDiff, Nat.reduceAdd, Nat.reduceSub, Int.reduceToNat, Nat.reduceLeDiff, Nat.reduceLT, reduceCtorEq, Int.reduceEq, retQ, retL, resV, RetV, RetOk, SubL, intD_B, lotD_B, flowD_B, snocI, ty_3, ty_27, ty_4, ty_39, ty_24, ty_43, ty_22, ty_65, ty_63, lkM_bool, upM_bool, boolV, boolV_getD, zip_bool, hd2, hxk, hdpl, hdp2]; try simp (disch := omega) only [av_w, av_t1, av_tp, Int.toNat_natCast]))
              refine ⟨k + 1, ⟨by omega, fun i hi => by rcases Nat.lt_succ_iff_lt_or_eq.1 hi with h | rfl; exact h0 i h; exact (by rw [hokd, lotB, hdi, hxk]; simp [hn, hpl, hdp2])⟩, by dsimp only; omega, wk_of [(3, some 3), (2, some 2), (1, some 1)] rfl rfl ?_ ?_⟩
              · simp only [wkT, wkB, wkB1, subV, subVs, subD, subB, lkN_n, lkN_c, lkT_n, lkT_c, lkB_n, lkB_c, if_true, if_false, reduceIte, Nat.reduceEqDiff, true_and, and_true, and_self, inT, ofA]
                (repeat' (first | exact trivial | rfl | exact rfl | exact subVs_d _ _ | exact subVs_dm _ _ | exact subD_refl _ | refine And.intro ?_ ?_))
              · simp only [wkT, wkB, wkB1, subV, subVs, subD, subB, lkN_n, lkN_c, lkT_n, lkT_c, lkB_n, lkB_c, if_true, if_false, reduceIte, Nat.reduceEqDiff, true_and, and_true, and_self, inT, ofA]
                rw [hbs]
                (repeat' (first | exact subM_mpV (subV_bool _) rfl | exact trivial | rfl | exact rfl | exact subVs_d _ _ | exact subVs_dm _ _ | exact subD_refl _ | refine And.intro ?_ ?_))
          · have hdpl : ((x.perm.length : Int) != (x.inn.length : Int)) = true := by simp; omega
            repeat' (first
              | (with_reducible refine aw_seq ?_)
              | ((with_reducible refine twoG_intro ?_ ?_) <;> intro hTw <;> first | (exact Bool.noConfusion hTw) | ((try simp only [hTw, Bool.not_true, Bool.not_false, Bool.true_and, Bool.false_and, Bool.and_true, Bool.and_false, Bool.true_or, Bool.false_or, Bool.or_true, Bool.or_false]); (first | (guard_hyp hTw : true = true; clear hTw) | (guard_hyp hTw : false = false; clear hTw) | (revert hTw; intro _))))
              | ((with_reducible refine two_intro ?_ ?_) <;> intro hTw <;> first | (exact Bool.noConfusion hTw) | ((first | (guard_hyp hTw : true = true; clear hTw) | (guard_hyp hTw : false = false; clear hTw) | (revert hTw; intro _))))
              | ((with_reducible refine And.intro ?_ ?_); (focus (first | exact keyOk_int_ | omega | rfl | decide | grind)))
              | (with_reducible refine aw_block ?_)
              | (with_reducible refine aw_scope ?_)
              | ((first
                  | ((with_reducible refine aw_regionA T_ok ?_ ?_); (focus kernel_rfl))
                  | ((with_reducible refine aw_drawnA T_ok ?_ ?_ ?_ ?_); (focus kernel_rfl); (focus kernel_rfl); (focus (decide +kernel)))
                  | ((with_reducible refine aw_drawnF T_ok ?_ ?_ ?_ ?_); (focus kernel_rfl); (focus kernel_rfl); (focus (decide +kernel)))
                  | ((with_reducible refine callK_fz (hdp) rfl ?_ ?_ ?_); (focus (repeat' (first | (exact FzA.nil) | (exact FzL.nil) | (exact FzLL.nil) | (exact FzLL_dV _) | (exact Fz.d rfl) | (refine FzA.one ?_ ?_) | (refine FzA.agg ?_ ?_) | (refine FzL.cons ?_ ?_) | (refine FzLL.cons ?_ ?_) | (exact hou) | (refine Fz.fn ?_ (by kernel_rfl) (hou)) | (refine Fz.fc (by kernel_rfl) (hou)) | (refine Fz.pt rfl ?_) | (refine Fz.mp rfl ?_ ?_ ?_) | (refine Fz.row rfl ?_) | (refine Fz.ag ?_))); done); (focus kernel_rfl))
                  | ((with_reducible refine callI_fz (hdp) rfl ?_ ?_ ?_ ?_); (focus (repeat' (first | (exact FzA.nil) | (exact FzL.nil) | (exact FzLL.nil) | (exact FzLL_dV _) | (exact Fz.d rfl) | (refine FzA.one ?_ ?_) | (refine FzA.agg ?_ ?_) | (refine FzL.cons ?_ ?_) | (refine FzLL.cons ?_ ?_) | (exact hou) | (refine Fz.fn ?_ (by kernel_rfl) (hou)) | (refine Fz.fc (by kernel_rfl) (hou)) | (refine Fz.pt rfl ?_) | (refine Fz.mp rfl ?_ ?_ ?_) | (refine Fz.row rfl ?_) | (refine Fz.ag ?_))); done); (focus kernel_rfl); (focus kernel_rfl))
                  | (with_reducible refine aw_label ?_)
                  | ((with_reducible refine aw_rfM ?_ ?_); (focus kernel_rfl))
                  | (with_reducible refine aw_skip ?_)
                  | (with_reducible refine aw_exit ?_)
                  | ((with_reducible refine aw_condM ?_ ?_); (focus kernel_rfl))
                  | (with_reducible refine aw_ret ?_)
                ); simp only [↓avP, avQ, if_true, if_false, forall_const, beq_self_eq_true, eq_self, ne_eq, implies_true, reduceIte, Nat.reduceEqDiff, Nat.reduceAdd, Nat.reduceSub, Int.reduceToNat, Nat.reduceLeDiff, Nat.reduceLT, reduceCtorEq, Int.reduceEq, retQ, retL, resV, RetV, RetOk, SubL, intD_B, lotD_B, flowD_B, snocI, ty_3, ty_27, ty_4, ty_39, ty_24, ty_43, ty_22, ty_65, ty_63, lkM_bool, upM_bool, boolV, boolV_getD, zip_bool, hd2, hxk, hdpl]; try simp (disch := omega) only [av_w, av_t1, av_tp, Int.toNat_natCast]))
            exact Sub.of_eq (congrArg aI (hend (by rw [hokd, lotB]; simp [hxk, hpl])).symm)
        | false =>
          by_cases hpl : x.perm.length = 0
          · have hdpl : decide ((x.perm.length : Int) > 0) = false := decide_eq_false (by omega)
            repeat' (first
              | (with_reducible refine aw_seq ?_)
              | ((with_reducible refine twoG_intro ?_ ?_) <;> intro hTw <;> first | (exact Bool.noConfusion hTw) | ((try simp only [hTw, Bool.not_true, Bool.not_false, Bool.true_and, Bool.false_and, Bool.and_true, Bool.and_false, Bool.true_or, Bool.false_or, Bool.or_true, Bool.or_false]); (first | (guard_hyp hTw : true = true; clear hTw) | (guard_hyp hTw : false = false; clear hTw) | (revert hTw; intro _))))
              | ((with_reducible refine two_intro ?_ ?_) <;> intro hTw <;> first | (exact Bool.noConfusion hTw) | ((first | (guard_hyp hTw : true = true; clear hTw) | (guard_hyp hTw : false = false; clear hTw) | (revert hTw; intro _))))
              | ((with_reducible refine And.intro ?_ ?_); (focus (first | exact keyOk_int_ | omega | rfl | decide | grind)))
              | (with_reducible refine aw_block ?_)
              | (with_reducible refine aw_scope ?_)
              | ((first
                  | ((with_reducible refine aw_regionA T_ok ?_ ?_); (focus kernel_rfl))
                  | ((with_reducible refine aw_drawnA T_ok ?_ ?_ ?_ ?_); (focus kernel_rfl); (focus kernel_rfl); (focus (decide +kernel)))
                  | ((with_reducible refine aw_drawnF T_ok ?_ ?_ ?_ ?_); (focus kernel_rfl); (focus kernel_rfl); (focus (decide +kernel)))
                  | ((with_reducible refine callK_fz (hdp) rfl ?_ ?_ ?_); (focus (repeat' (first | (exact FzA.nil) | (exact FzL.nil) | (exact FzLL.nil) | (exact FzLL_dV _) | (exact Fz.d rfl) | (refine FzA.one ?_ ?_) | (refine FzA.agg ?_ ?_) | (refine FzL.cons ?_ ?_) | (refine FzLL.cons ?_ ?_) | (exact hou) | (refine Fz.fn ?_ (by kernel_rfl) (hou)) | (refine Fz.fc (by kernel_rfl) (hou)) | (refine Fz.pt rfl ?_) | (refine Fz.mp rfl ?_ ?_ ?_) | (refine Fz.row rfl ?_) | (refine Fz.ag ?_))); done); (focus kernel_rfl))
                  | ((with_reducible refine callI_fz (hdp) rfl ?_ ?_ ?_ ?_); (focus (repeat' (first | (exact FzA.nil) | (exact FzL.nil) | (exact FzLL.nil) | (exact FzLL_dV _) | (exact Fz.d rfl) | (refine FzA.one ?_ ?_) | (refine FzA.agg ?_ ?_) | (refine FzL.cons ?_ ?_) | (refine FzLL.cons ?_ ?_) | (exact hou) | (refine Fz.fn ?_ (by kernel_rfl) (hou)) | (refine Fz.fc (by kernel_rfl) (hou)) | (refine Fz.pt rfl ?_) | (refine Fz.mp rfl ?_ ?_ ?_) | (refine Fz.row rfl ?_) | (refine Fz.ag ?_))); done); (focus kernel_rfl); (focus kernel_rfl))
                  | (with_reducible refine aw_label ?_)
                  | ((with_reducible refine aw_rfM ?_ ?_); (focus kernel_rfl))
                  | (with_reducible refine aw_skip ?_)
                  | (with_reducible refine aw_exit ?_)
                  | ((with_reducible refine aw_condM ?_ ?_); (focus kernel_rfl))
                  | (with_reducible refine aw_ret ?_)
                ); simp only [↓avP, avQ, if_true, if_false, forall_const, beq_self_eq_true, eq_self, ne_eq, implies_true, reduceIte, Nat.reduceEqDiff, Nat.reduceAdd, Nat.reduceSub, Int.reduceToNat, Nat.reduceLeDiff, Nat.reduceLT, reduceCtorEq, Int.reduceEq, retQ, retL, resV, RetV, RetOk, SubL, intD_B, lotD_B, flowD_B, snocI, ty_3, ty_27, ty_4, ty_39, ty_24, ty_43, ty_22, ty_65, ty_63, lkM_bool, upM_bool, boolV, boolV_getD, zip_bool, hd2, hxk, hdpl]; try simp (disch := omega) only [av_w, av_t1, av_tp, Int.toNat_natCast]))
            refine ⟨k + 1, ⟨by omega, fun i hi => by rcases Nat.lt_succ_iff_lt_or_eq.1 hi with h | rfl; exact h0 i h; exact (by rw [hokd, lotB, hdi, hxk]; simp [hn, hpl])⟩, by dsimp only; omega, wk_of [(3, some 3), (2, some 2), (1, some 1)] rfl rfl ?_ ?_⟩
            · simp only [wkT, wkB, wkB1, subV, subVs, subD, subB, lkN_n, lkN_c, lkT_n, lkT_c, lkB_n, lkB_c, if_true, if_false, reduceIte, Nat.reduceEqDiff, true_and, and_true, and_self, inT, ofA]
              (repeat' (first | exact trivial | rfl | exact rfl | exact subVs_d _ _ | exact subVs_dm _ _ | exact subD_refl _ | refine And.intro ?_ ?_))
            · simp only [wkT, wkB, wkB1, subV, subVs, subD, subB, lkN_n, lkN_c, lkT_n, lkT_c, lkB_n, lkB_c, if_true, if_false, reduceIte, Nat.reduceEqDiff, true_and, and_true, and_self, inT, ofA]
              rw [hbs]
              (repeat' (first | exact subM_mpV (subV_bool _) rfl | exact trivial | rfl | exact rfl | exact subVs_d _ _ | exact subVs_dm _ _ | exact subD_refl _ | refine And.intro ?_ ?_))
          · have hdpl : decide ((x.perm.length : Int) > 0) = true := decide_eq_true (by omega)
            repeat' (first
              | (with_reducible refine aw_seq ?_)
              | ((with_reducible refine twoG_intro ?_ ?_) <;> intro hTw <;> first | (exact Bool.noConfusion hTw) | ((try simp only [hTw, Bool.not_true, Bool.not_false, Bool.true_and, Bool.false_and, Bool.and_true, Bool.and_false, Bool.true_or, Bool.false_or, Bool.or_true, Bool.or_false]); (first | (guard_hyp hTw : true = true; clear hTw) | (guard_hyp hTw : false = false; clear hTw) | (revert hTw; intro _))))
              | ((with_reducible refine two_intro ?_ ?_) <;> intro hTw <;> first | (exact Bool.noConfusion hTw) | ((first | (guard_hyp hTw : true = true; clear hTw) | (guard_hyp hTw : false = false; clear hTw) | (revert hTw; intro _))))
              | ((with_reducible refine And.intro ?_ ?_); (focus (first | exact keyOk_int_ | omega | rfl | decide | grind)))
              | (with_reducible refine aw_block ?_)
              | (with_reducible refine aw_scope ?_)
              | ((first
                  | ((with_reducible refine aw_regionA T_ok ?_ ?_); (focus kernel_rfl))
                  | ((with_reducible refine aw_drawnA T_ok ?_ ?_ ?_ ?_); (focus kernel_rfl); (focus kernel_rfl); (focus (decide +kernel)))
                  | ((with_reducible refine aw_drawnF T_ok ?_ ?_ ?_ ?_); (focus kernel_rfl); (focus kernel_rfl); (focus (decide +kernel)))
                  | ((with_reducible refine callK_fz (hdp) rfl ?_ ?_ ?_); (focus (repeat' (first | (exact FzA.nil) | (exact FzL.nil) | (exact FzLL.nil) | (exact FzLL_dV _) | (exact Fz.d rfl) | (refine FzA.one ?_ ?_) | (refine FzA.agg ?_ ?_) | (refine FzL.cons ?_ ?_) | (refine FzLL.cons ?_ ?_) | (exact hou) | (refine Fz.fn ?_ (by kernel_rfl) (hou)) | (refine Fz.fc (by kernel_rfl) (hou)) | (refine Fz.pt rfl ?_) | (refine Fz.mp rfl ?_ ?_ ?_) | (refine Fz.row rfl ?_) | (refine Fz.ag ?_))); done); (focus kernel_rfl))
                  | ((with_reducible refine callI_fz (hdp) rfl ?_ ?_ ?_ ?_); (focus (repeat' (first | (exact FzA.nil) | (exact FzL.nil) | (exact FzLL.nil) | (exact FzLL_dV _) | (exact Fz.d rfl) | (refine FzA.one ?_ ?_) | (refine FzA.agg ?_ ?_) | (refine FzL.cons ?_ ?_) | (refine FzLL.cons ?_ ?_) | (exact hou) | (refine Fz.fn ?_ (by kernel_rfl) (hou)) | (refine Fz.fc (by kernel_rfl) (hou)) | (refine Fz.pt rfl ?_) | (refine Fz.mp rfl ?_ ?_ ?_) | (refine Fz.row rfl ?_) | (refine Fz.ag ?_))); done); (focus kernel_rfl); (focus kernel_rfl))
                  | (with_reducible refine aw_label ?_)
                  | ((with_reducible refine aw_rfM ?_ ?_); (focus kernel_rfl))
                  | (with_reducible refine aw_skip ?_)
                  | (with_reducible refine aw_exit ?_)
                  | ((with_reducible refine aw_condM ?_ ?_); (focus kernel_rfl))
                  | (with_reducible refine aw_ret ?_)
                ); simp only [↓avP, avQ, if_true, if_false, forall_const, beq_self_eq_true, eq_self, ne_eq, implies_true, reduceIte, Nat.reduceEqDiff, Nat.reduceAdd, Nat.reduceSub, Int.reduceToNat, Nat.reduceLeDiff, Nat.reduceLT, reduceCtorEq, Int.reduceEq, retQ, retL, resV, RetV, RetOk, SubL, intD_B, lotD_B, flowD_B, snocI, ty_3, ty_27, ty_4, ty_39, ty_24, ty_43, ty_22, ty_65, ty_63, lkM_bool, upM_bool, boolV, boolV_getD, zip_bool, hd2, hxk, hdpl]; try simp (disch := omega) only [av_w, av_t1, av_tp, Int.toNat_natCast]))
            exact Sub.of_eq (congrArg aI (hend (by rw [hokd, lotB]; simp [hxk, hpl])).symm)
  · obtain rfl : k = f.lots.length := by omega
    have hd := ged (Nat.le_refl f.lots.length)
    repeat' (first
      | (with_reducible refine aw_seq ?_)
      | ((with_reducible refine twoG_intro ?_ ?_) <;> intro hTw <;> first | (exact Bool.noConfusion hTw) | ((try simp only [hTw, Bool.not_true, Bool.not_false, Bool.true_and, Bool.false_and, Bool.and_true, Bool.and_false, Bool.true_or, Bool.false_or, Bool.or_true, Bool.or_false]); (first | (guard_hyp hTw : true = true; clear hTw) | (guard_hyp hTw : false = false; clear hTw) | (revert hTw; intro _))))
      | ((with_reducible refine two_intro ?_ ?_) <;> intro hTw <;> first | (exact Bool.noConfusion hTw) | ((first | (guard_hyp hTw : true = true; clear hTw) | (guard_hyp hTw : false = false; clear hTw) | (revert hTw; intro _))))
      | ((with_reducible refine And.intro ?_ ?_); (focus (first | exact keyOk_int_ | omega | rfl | decide | grind)))
      | (with_reducible refine aw_block ?_)
      | (with_reducible refine aw_scope ?_)
      | ((first
          | ((with_reducible refine aw_regionA T_ok ?_ ?_); (focus kernel_rfl))
          | ((with_reducible refine aw_drawnA T_ok ?_ ?_ ?_ ?_); (focus kernel_rfl); (focus kernel_rfl); (focus (decide +kernel)))
          | ((with_reducible refine aw_drawnF T_ok ?_ ?_ ?_ ?_); (focus kernel_rfl); (focus kernel_rfl); (focus (decide +kernel)))
          | (with_reducible refine aw_label ?_)
          | ((with_reducible refine aw_rfM ?_ ?_); (focus kernel_rfl))
          | (with_reducible refine aw_skip ?_)
          | (with_reducible refine aw_exit ?_)
          | ((with_reducible refine aw_condM ?_ ?_); (focus kernel_rfl))
          | (with_reducible refine aw_ret ?_)
        ); simp only [↓avP, avQ, if_true, if_false, forall_const, beq_self_eq_true, eq_self, ne_eq, implies_true, reduceIte, Nat.reduceEqDiff, Nat.reduceAdd, Nat.reduceSub, Int.reduceToNat, Nat.reduceLeDiff, Nat.reduceLT, reduceCtorEq, Int.reduceEq, retQ, retL, resV, RetV, RetOk, SubL, intD_B, lotD_B, flowD_B, snocI, ty_3, ty_27, ty_4, ty_39, ty_24, ty_43, ty_22, ty_65, ty_63, lkM_bool, upM_bool, boolV, boolV_getD, zip_bool, hd]; try simp (disch := omega) only [av_w, av_t1, av_tp, Int.toNat_natCast]))
    rw [hc, if_pos (by
      unfold validF
      rw [List.all_eq_true]
      intro i hi
      exact h0 i (by simpa using hi))]
    exact Sub.refl _
end Go.Proofs.Ytfndjciojljkfaa

namespace Go.Proofs.Ytfndjciojljkfaa
set_option linter.unusedSimpArgs false
set_option linter.unusedVariables false
open Go.RowKit
set_option maxRecDepth 100000
set_option maxHeartbeats 4000000
theorem fknown1_spec (x : LotP) : Spec Try.prog 75 [aLot x] (.r1 (aB (!x.known))) := by
  refine spec_of T_ok Try.func75 (by dsimp only [Try.f75]) rfl rfl (by simp) fun w F => ?_
  repeat' (first
    | (with_reducible refine aw_seq ?_)
    | ((with_reducible refine twoG_intro ?_ ?_) <;> intro hTw <;> first | (exact Bool.noConfusion hTw) | ((try simp only [hTw, Bool.not_true, Bool.not_false, Bool.true_and, Bool.false_and, Bool.and_true, Bool.and_false, Bool.true_or, Bool.false_or, Bool.or_true, Bool.or_false]); (first | (guard_hyp hTw : true = true; clear hTw) | (guard_hyp hTw : false = false; clear hTw) | (revert hTw; intro _))))
    | ((with_reducible refine two_intro ?_ ?_) <;> intro hTw <;> first | (exact Bool.noConfusion hTw) | ((first | (guard_hyp hTw : true = true; clear hTw) | (guard_hyp hTw : false = false; clear hTw) | (revert hTw; intro _))))
    | ((with_reducible refine And.intro ?_ ?_); (focus (first | omega | rfl | decide | grind)))
    | (with_reducible refine aw_block ?_)
    | (with_reducible refine aw_scope ?_)
    | ((first
        | ((with_reducible refine aw_regionA T_ok ?_ ?_); (focus kernel_rfl))
        | ((with_reducible refine aw_drawnA T_ok ?_ ?_ ?_ ?_); (focus kernel_rfl); (focus kernel_rfl); (focus (decide +kernel)))
        | ((with_reducible refine aw_drawnF T_ok ?_ ?_ ?_ ?_); (focus kernel_rfl); (focus kernel_rfl); (focus (decide +kernel)))
        | (with_reducible refine aw_label ?_)
        | ((with_reducible refine aw_rfM ?_ ?_); (focus kernel_rfl))
        | (with_reducible refine aw_skip ?_)
        | (with_reducible refine aw_exit ?_)
        | ((with_reducible refine aw_condM ?_ ?_); (focus kernel_rfl))
        | (with_reducible refine aw_ret ?_)
      ); simp only [↓avP, avQ, if_true, if_false, forall_const, beq_self_eq_true, eq_self, ne_eq, implies_true, reduceIte, Nat.reduceEqDiff, Nat.reduceAdd, Nat.reduceSub, Int.reduceToNat, Nat.reduceLeDiff, Nat.reduceLT, reduceCtorEq, Int.reduceEq, retQ, retL, resV, RetV, RetOk, SubL, intD_B, lotD_B, flowD_B, snocI, snocL, ty_3, ty_27, ty_4, ty_24, ty_43, ty_22, ty_33, ty_65, ty_47, issD_get]; try simp (disch := omega) only [av_w, av_t1, av_tp, Int.toNat_natCast]))
  all_goals exact Sub.refl _
theorem fknown_spec (f : FlowP) (hl : f.lots.length ≤ 140737488351232) : Spec Try.prog 54 [.agg (flowD f)] (.r1 (aB (knownF f))) := by
  refine spec_of T_ok Try.func54 (by dsimp only [Try.f54]) rfl rfl (by simp) fun w F => ?_
  have hk : ∀ asA r, FnM aLot (fun x => !x.known) f.lots asA r → Spec Try.prog 75 asA r := by
    rintro asA r ⟨x, _, rfl, rfl⟩
    exact fknown1_spec x
  have hC := lots_contains f.lots (fun x => !x.known) hl
  have he : knownF f = !(f.lots.any fun x => !x.known) := by
    rw [← any_getD f.lots default, knownF, Bool.eq_iff_iff, List.all_eq_true, Bool.not_eq_true', List.any_eq_false]
    constructor
    · intro h i hi
      have := h i hi
      simpa using this
    · intro h i hi
      have := h i hi
      simpa using this
  rw [he]
  repeat' (first
    | (with_reducible refine aw_seq ?_)
    | ((with_reducible refine twoG_intro ?_ ?_) <;> intro hTw <;> first | (exact Bool.noConfusion hTw) | ((try simp only [hTw, Bool.not_true, Bool.not_false, Bool.true_and, Bool.false_and, Bool.and_true, Bool.and_false, Bool.true_or, Bool.false_or, Bool.or_true, Bool.or_false]); (first | (guard_hyp hTw : true = true; clear hTw) | (guard_hyp hTw : false = false; clear hTw) | (revert hTw; intro _))))
    | ((with_reducible refine two_intro ?_ ?_) <;> intro hTw <;> first | (exact Bool.noConfusion hTw) | ((first | (guard_hyp hTw : true = true; clear hTw) | (guard_hyp hTw : false = false; clear hTw) | (revert hTw; intro _))))
    | ((with_reducible refine And.intro ?_ ?_); (focus (first | omega | rfl | decide | grind)))
    | (with_reducible refine aw_block ?_)
    | (with_reducible refine aw_scope ?_)
    | ((first
        | ((with_reducible refine aw_regionA T_ok ?_ ?_); (focus kernel_rfl))
        | ((with_reducible refine aw_drawnA T_ok ?_ ?_ ?_ ?_); (focus kernel_rfl); (focus kernel_rfl); (focus (decide +kernel)))
        | ((with_reducible refine aw_drawnF T_ok ?_ ?_ ?_ ?_); (focus kernel_rfl); (focus kernel_rfl); (focus (decide +kernel)))
        | ((with_reducible refine callK_fz (hC) rfl ?_ ?_ ?_); (focus (repeat' (first | (exact FzA.nil) | (exact FzL.nil) | (exact FzLL.nil) | (exact FzLL_dV _) | (exact Fz.d rfl) | (refine FzA.one ?_ ?_) | (refine FzA.agg ?_ ?_) | (refine FzL.cons ?_ ?_) | (refine FzLL.cons ?_ ?_) | (exact hk) | (refine Fz.fn ?_ (by kernel_rfl) (hk)) | (refine Fz.fc (by kernel_rfl) (hk)) | (refine Fz.pt rfl ?_) | (refine Fz.mp rfl ?_ ?_ ?_) | (refine Fz.row rfl ?_) | (refine Fz.ag ?_))); done); (focus kernel_rfl))
        | ((with_reducible refine callI_fz (hC) rfl ?_ ?_ ?_ ?_); (focus (repeat' (first | (exact FzA.nil) | (exact FzL.nil) | (exact FzLL.nil) | (exact FzLL_dV _) | (exact Fz.d rfl) | (refine FzA.one ?_ ?_) | (refine FzA.agg ?_ ?_) | (refine FzL.cons ?_ ?_) | (refine FzLL.cons ?_ ?_) | (exact hk) | (refine Fz.fn ?_ (by kernel_rfl) (hk)) | (refine Fz.fc (by kernel_rfl) (hk)) | (refine Fz.pt rfl ?_) | (refine Fz.mp rfl ?_ ?_ ?_) | (refine Fz.row rfl ?_) | (refine Fz.ag ?_))); done); (focus kernel_rfl); (focus kernel_rfl))
        | (with_reducible refine aw_label ?_)
        | ((with_reducible refine aw_rfM ?_ ?_); (focus kernel_rfl))
        | (with_reducible refine aw_skip ?_)
        | (with_reducible refine aw_exit ?_)
        | ((with_reducible refine aw_condM ?_ ?_); (focus kernel_rfl))
        | (with_reducible refine aw_ret ?_)
      ); simp only [↓avP, avQ, if_true, if_false, forall_const, beq_self_eq_true, eq_self, ne_eq, implies_true, reduceIte, Nat.reduceEqDiff, Nat.reduceAdd, Nat.reduceSub, Int.reduceToNat, Nat.reduceLeDiff, Nat.reduceLT, reduceCtorEq, Int.reduceEq, retQ, retL, resV, RetV, RetOk, SubL, intD_B, lotD_B, flowD_B, snocI, snocL, ty_3, ty_27, ty_4, ty_24, ty_43, ty_22, ty_33, ty_65, ty_47, issD_get]; try simp (disch := omega) only [av_w, av_t1, av_tp, Int.toNat_natCast]))
  exact Sub.refl _
theorem fview1_spec (n : Int) : Spec Try.prog 56 [aI n] (.r1 (aB (officeB n))) := by
  refine spec_of T_ok Try.func56 (by dsimp only [Try.f56]) rfl rfl (by simp) fun w F => ?_
  repeat' (first
    | (with_reducible refine aw_seq ?_)
    | ((with_reducible refine twoG_intro ?_ ?_) <;> intro hTw <;> first | (exact Bool.noConfusion hTw) | ((try simp only [hTw, Bool.not_true, Bool.not_false, Bool.true_and, Bool.false_and, Bool.and_true, Bool.and_false, Bool.true_or, Bool.false_or, Bool.or_true, Bool.or_false]); (first | (guard_hyp hTw : true = true; clear hTw) | (guard_hyp hTw : false = false; clear hTw) | (revert hTw; intro _))))
    | ((with_reducible refine two_intro ?_ ?_) <;> intro hTw <;> first | (exact Bool.noConfusion hTw) | ((first | (guard_hyp hTw : true = true; clear hTw) | (guard_hyp hTw : false = false; clear hTw) | (revert hTw; intro _))))
    | ((with_reducible refine And.intro ?_ ?_); (focus (first | omega | rfl | decide | grind)))
    | (with_reducible refine aw_block ?_)
    | (with_reducible refine aw_scope ?_)
    | ((first
        | ((with_reducible refine aw_regionA T_ok ?_ ?_); (focus kernel_rfl))
        | ((with_reducible refine aw_drawnA T_ok ?_ ?_ ?_ ?_); (focus kernel_rfl); (focus kernel_rfl); (focus (decide +kernel)))
        | ((with_reducible refine aw_drawnF T_ok ?_ ?_ ?_ ?_); (focus kernel_rfl); (focus kernel_rfl); (focus (decide +kernel)))
        | (with_reducible refine aw_label ?_)
        | ((with_reducible refine aw_rfM ?_ ?_); (focus kernel_rfl))
        | (with_reducible refine aw_skip ?_)
        | (with_reducible refine aw_exit ?_)
        | ((with_reducible refine aw_condM ?_ ?_); (focus kernel_rfl))
        | (with_reducible refine aw_ret ?_)
      ); simp only [↓avP, avQ, if_true, if_false, forall_const, beq_self_eq_true, eq_self, ne_eq, implies_true, reduceIte, Nat.reduceEqDiff, Nat.reduceAdd, Nat.reduceSub, Int.reduceToNat, Nat.reduceLeDiff, Nat.reduceLT, reduceCtorEq, Int.reduceEq, retQ, retL, resV, RetV, RetOk, SubL, intD_B, lotD_B, flowD_B, snocI, snocL, ty_3, ty_27, ty_4, ty_24, ty_43, ty_22, ty_33, ty_65, ty_47, issD_get]; try simp (disch := omega) only [av_w, av_t1, av_tp, Int.toNat_natCast]))
  all_goals exact Sub.of_eq (congrArg aB (by simp [officeB]))
theorem office_fn : ∀ asA r, FnD aI officeB asA r → Spec Try.prog 56 asA r := by
  rintro asA r ⟨n, rfl, rfl⟩
  exact fview1_spec n
theorem fview2_spec (l : List Int) (hl : l.length ≤ 140737488351232) (hb : ∀ x ∈ l, -9223372036854775808 ≤ x ∧ x ≤ 9223372036854775807) : Spec Try.prog 57 [aIs l, .one (.pt [.c (.func (.func 56) #[] #[])])] (.r1 (aB (!lineB l))) := by
  refine spec_of T_ok Try.func57 (by dsimp only [Try.f57]) rfl rfl (by simp) fun w F => ?_
  have hD := different_spec l officeB hl hb
  by_cases h1 : l.length = 0
  · have hd1 : ((l.length : Int) == 0) = true := by rw [h1]; rfl
    repeat' (first
      | (with_reducible refine aw_seq ?_)
      | ((with_reducible refine twoG_intro ?_ ?_) <;> intro hTw <;> first | (exact Bool.noConfusion hTw) | ((try simp only [hTw, Bool.not_true, Bool.not_false, Bool.true_and, Bool.false_and, Bool.and_true, Bool.and_false, Bool.true_or, Bool.false_or, Bool.or_true, Bool.or_false]); (first | (guard_hyp hTw : true = true; clear hTw) | (guard_hyp hTw : false = false; clear hTw) | (revert hTw; intro _))))
      | ((with_reducible refine two_intro ?_ ?_) <;> intro hTw <;> first | (exact Bool.noConfusion hTw) | ((first | (guard_hyp hTw : true = true; clear hTw) | (guard_hyp hTw : false = false; clear hTw) | (revert hTw; intro _))))
      | ((with_reducible refine And.intro ?_ ?_); (focus (first | omega | rfl | decide | grind)))
      | (with_reducible refine aw_block ?_)
      | (with_reducible refine aw_scope ?_)
      | ((first
          | ((with_reducible refine aw_regionA T_ok ?_ ?_); (focus kernel_rfl))
          | ((with_reducible refine aw_drawnA T_ok ?_ ?_ ?_ ?_); (focus kernel_rfl); (focus kernel_rfl); (focus (decide +kernel)))
          | ((with_reducible refine aw_drawnF T_ok ?_ ?_ ?_ ?_); (focus kernel_rfl); (focus kernel_rfl); (focus (decide +kernel)))
          | ((with_reducible refine callK_skip (.r1 (aB false)) (by with_unfolding_all rfl) ?_ ?_); (focus kernel_rfl))
          | ((with_reducible refine callK_fz (hD) rfl ?_ ?_ ?_); (focus (repeat' (first | (exact FzA.nil) | (exact FzL.nil) | (exact FzLL.nil) | (exact FzLL_dV _) | (exact Fz.d rfl) | (refine FzA.one ?_ ?_) | (refine FzA.agg ?_ ?_) | (refine FzL.cons ?_ ?_) | (refine FzLL.cons ?_ ?_) | (exact office_fn) | (refine Fz.fn ?_ (by kernel_rfl) (office_fn)) | (refine Fz.fc (by kernel_rfl) (office_fn)) | (refine Fz.pt rfl ?_) | (refine Fz.mp rfl ?_ ?_ ?_) | (refine Fz.row rfl ?_) | (refine Fz.ag ?_))); done); (focus kernel_rfl))
          | ((with_reducible refine callI_fz (hD) rfl ?_ ?_ ?_ ?_); (focus (repeat' (first | (exact FzA.nil) | (exact FzL.nil) | (exact FzLL.nil) | (exact FzLL_dV _) | (exact Fz.d rfl) | (refine FzA.one ?_ ?_) | (refine FzA.agg ?_ ?_) | (refine FzL.cons ?_ ?_) | (refine FzLL.cons ?_ ?_) | (exact office_fn) | (refine Fz.fn ?_ (by kernel_rfl) (office_fn)) | (refine Fz.fc (by kernel_rfl) (office_fn)) | (refine Fz.pt rfl ?_) | (refine Fz.mp rfl ?_ ?_ ?_) | (refine Fz.row rfl ?_) | (refine Fz.ag ?_))); done); (focus kernel_rfl); (focus kernel_rfl))
          | (with_reducible refine aw_label ?_)
          | ((with_reducible refine aw_rfM ?_ ?_); (focus kernel_rfl))
          | (with_reducible refine aw_skip ?_)
          | (with_reducible refine aw_exit ?_)
          | ((with_reducible refine aw_condM ?_ ?_); (focus kernel_rfl))
          | (with_reducible refine aw_ret ?_)
        ); simp only [↓avP, avQ, if_true, if_false, forall_const, beq_self_eq_true, eq_self, ne_eq, implies_true, reduceIte, Nat.reduceEqDiff, Nat.reduceAdd, Nat.reduceSub, Int.reduceToNat, Nat.reduceLeDiff, Nat.reduceLT, reduceCtorEq, Int.reduceEq, retQ, retL, resV, RetV, RetOk, SubL, intD_B, lotD_B, flowD_B, snocI, snocL, ty_3, ty_27, ty_4, ty_24, ty_43, ty_22, ty_33, ty_65, ty_47, issD_get, hd1]; try simp (disch := omega) only [av_w, av_t1, av_tp, Int.toNat_natCast]))
    exact Sub.of_eq (congrArg aB (by rw [lineB, decide_eq_false (by omega)]; rfl))
  · have hd1 : ((l.length : Int) == 0) = false := by simp; exact fun e => h1 (by rw [e]; rfl)
    repeat' (first
      | (with_reducible refine aw_seq ?_)
      | ((with_reducible refine twoG_intro ?_ ?_) <;> intro hTw <;> first | (exact Bool.noConfusion hTw) | ((try simp only [hTw, Bool.not_true, Bool.not_false, Bool.true_and, Bool.false_and, Bool.and_true, Bool.and_false, Bool.true_or, Bool.false_or, Bool.or_true, Bool.or_false]); (first | (guard_hyp hTw : true = true; clear hTw) | (guard_hyp hTw : false = false; clear hTw) | (revert hTw; intro _))))
      | ((with_reducible refine two_intro ?_ ?_) <;> intro hTw <;> first | (exact Bool.noConfusion hTw) | ((first | (guard_hyp hTw : true = true; clear hTw) | (guard_hyp hTw : false = false; clear hTw) | (revert hTw; intro _))))
      | ((with_reducible refine And.intro ?_ ?_); (focus (first | omega | rfl | decide | grind)))
      | (with_reducible refine aw_block ?_)
      | (with_reducible refine aw_scope ?_)
      | ((first
          | ((with_reducible refine aw_regionA T_ok ?_ ?_); (focus kernel_rfl))
          | ((with_reducible refine aw_drawnA T_ok ?_ ?_ ?_ ?_); (focus kernel_rfl); (focus kernel_rfl); (focus (decide +kernel)))
          | ((with_reducible refine aw_drawnF T_ok ?_ ?_ ?_ ?_); (focus kernel_rfl); (focus kernel_rfl); (focus (decide +kernel)))
          | ((with_reducible refine callK_fz (hD) rfl ?_ ?_ ?_); (focus (repeat' (first | (exact FzA.nil) | (exact FzL.nil) | (exact FzLL.nil) | (exact FzLL_dV _) | (exact Fz.d rfl) | (refine FzA.one ?_ ?_) | (refine FzA.agg ?_ ?_) | (refine FzL.cons ?_ ?_) | (refine FzLL.cons ?_ ?_) | (exact office_fn) | (refine Fz.fn ?_ (by kernel_rfl) (office_fn)) | (refine Fz.fc (by kernel_rfl) (office_fn)) | (refine Fz.pt rfl ?_) | (refine Fz.mp rfl ?_ ?_ ?_) | (refine Fz.row rfl ?_) | (refine Fz.ag ?_))); done); (focus kernel_rfl))
          | ((with_reducible refine callI_fz (hD) rfl ?_ ?_ ?_ ?_); (focus (repeat' (first | (exact FzA.nil) | (exact FzL.nil) | (exact FzLL.nil) | (exact FzLL_dV _) | (exact Fz.d rfl) | (refine FzA.one ?_ ?_) | (refine FzA.agg ?_ ?_) | (refine FzL.cons ?_ ?_) | (refine FzLL.cons ?_ ?_) | (exact office_fn) | (refine Fz.fn ?_ (by kernel_rfl) (office_fn)) | (refine Fz.fc (by kernel_rfl) (office_fn)) | (refine Fz.pt rfl ?_) | (refine Fz.mp rfl ?_ ?_ ?_) | (refine Fz.row rfl ?_) | (refine Fz.ag ?_))); done); (focus kernel_rfl); (focus kernel_rfl))
          | (with_reducible refine aw_label ?_)
          | ((with_reducible refine aw_rfM ?_ ?_); (focus kernel_rfl))
          | (with_reducible refine aw_skip ?_)
          | (with_reducible refine aw_exit ?_)
          | ((with_reducible refine aw_condM ?_ ?_); (focus kernel_rfl))
          | (with_reducible refine aw_ret ?_)
        ); simp only [↓avP, avQ, if_true, if_false, forall_const, beq_self_eq_true, eq_self, ne_eq, implies_true, reduceIte, Nat.reduceEqDiff, Nat.reduceAdd, Nat.reduceSub, Int.reduceToNat, Nat.reduceLeDiff, Nat.reduceLT, reduceCtorEq, Int.reduceEq, retQ, retL, resV, RetV, RetOk, SubL, intD_B, lotD_B, flowD_B, snocI, snocL, ty_3, ty_27, ty_4, ty_24, ty_43, ty_22, ty_33, ty_65, ty_47, issD_get, hd1]; try simp (disch := omega) only [av_w, av_t1, av_tp, Int.toNat_natCast]))
    exact Sub.of_eq (congrArg aB (by rw [lineB, decide_eq_true h1, Bool.true_and]))
theorem fview3_spec (coal : List Int) (n : Int) (hl : coal.length ≤ 140737488351232) : Spec Try.prog 60 [aI n, .one (.pt [.sl 1 (intD 0) (coal.map intD)])] (.r1 (aB (!decide (n ∈ coal)))) := by
  refine spec_of T_ok Try.func60 (by dsimp only [Try.f60]) rfl rfl (by simp) fun w F => ?_
  repeat' (first
    | (with_reducible refine aw_seq ?_)
    | ((with_reducible refine twoG_intro ?_ ?_) <;> intro hTw <;> first | (exact Bool.noConfusion hTw) | ((try simp only [hTw, Bool.not_true, Bool.not_false, Bool.true_and, Bool.false_and, Bool.and_true, Bool.and_false, Bool.true_or, Bool.false_or, Bool.or_true, Bool.or_false]); (first | (guard_hyp hTw : true = true; clear hTw) | (guard_hyp hTw : false = false; clear hTw) | (revert hTw; intro _))))
    | ((with_reducible refine two_intro ?_ ?_) <;> intro hTw <;> first | (exact Bool.noConfusion hTw) | ((first | (guard_hyp hTw : true = true; clear hTw) | (guard_hyp hTw : false = false; clear hTw) | (revert hTw; intro _))))
    | ((with_reducible refine And.intro ?_ ?_); (focus (first | omega | rfl | decide | grind)))
    | (with_reducible refine aw_block ?_)
    | (with_reducible refine aw_scope ?_)
    | ((first
        | ((with_reducible refine aw_regionA T_ok ?_ ?_); (focus kernel_rfl))
        | ((with_reducible refine aw_drawnA T_ok ?_ ?_ ?_ ?_); (focus kernel_rfl); (focus kernel_rfl); (focus (decide +kernel)))
        | ((with_reducible refine aw_drawnF T_ok ?_ ?_ ?_ ?_); (focus kernel_rfl); (focus kernel_rfl); (focus (decide +kernel)))
        | ((with_reducible refine callK_intro (contains_spec coal n hl) (by with_unfolding_all rfl) ?_ ?_); (focus kernel_rfl))
        | ((with_reducible refine callI_spec (contains_spec coal n hl) (by with_unfolding_all rfl) ?_ ?_ ?_); (focus kernel_rfl); (focus kernel_rfl))
        | (with_reducible refine aw_label ?_)
        | ((with_reducible refine aw_rfM ?_ ?_); (focus kernel_rfl))
        | (with_reducible refine aw_skip ?_)
        | (with_reducible refine aw_exit ?_)
        | ((with_reducible refine aw_condM ?_ ?_); (focus kernel_rfl))
        | (with_reducible refine aw_ret ?_)
      ); simp only [↓avP, avQ, if_true, if_false, forall_const, beq_self_eq_true, eq_self, ne_eq, implies_true, reduceIte, Nat.reduceEqDiff, Nat.reduceAdd, Nat.reduceSub, Int.reduceToNat, Nat.reduceLeDiff, Nat.reduceLT, reduceCtorEq, Int.reduceEq, retQ, retL, resV, RetV, RetOk, SubL, intD_B, lotD_B, flowD_B, snocI, snocL, ty_3, ty_27, ty_4, ty_24, ty_43, ty_22, ty_33, ty_65, ty_47, issD_get]; try simp (disch := omega) only [av_w, av_t1, av_tp, Int.toNat_natCast]))
  exact Sub.refl _
theorem strict_lt {l : List Int} (h : ∀ k, k < l.length → k ≠ 0 → l.getD (k - 1) 0 < l.getD k 0) : ∀ j i, i < j → j < l.length → l.getD i 0 < l.getD j 0
  | 0, i, h1, _ => by omega
  | j + 1, i, h1, h2 => by
    have := h (j + 1) h2 (by omega)
    rw [Nat.add_sub_cancel] at this
    rcases Nat.lt_succ_iff_lt_or_eq.1 h1 with h3 | rfl
    · have := strict_lt h j i h3 (by omega); omega
    · exact this
theorem coal_eq (l : List Int) : coalB l = (diffB officeB l && sortedB l) := by
  rw [Bool.eq_iff_iff]
  unfold coalB diffB sortedB
  rw [← range_all l officeB]
  simp only [Bool.and_eq_true, decide_eq_true_eq, List.all_eq_true, List.mem_range, Bool.not_eq_true', Bool.or_eq_false_iff, Bool.not_eq_false', Bool.and_eq_false_iff, decide_eq_false_iff_not]
  constructor
  · intro h
    have hs : ∀ k, k < l.length → k ≠ 0 → l.getD (k - 1) 0 < l.getD k 0 := fun k hk h0 => by
      have := (h k hk).2; omega
    refine ⟨⟨?_, fun k hk => (h k hk).1⟩, fun k hk => ?_⟩
    · rw [List.nodup_iff_pairwise_ne, List.pairwise_iff_getElem]
      intro i j hi hj hij e
      have := strict_lt hs j i hij hj
      simp [List.getD, hi, hj] at this
      omega
    · by_cases h0 : k = 0
      · exact .inl (by omega)
      · have := hs k hk h0; exact .inr (by omega)
  · rintro ⟨⟨h1, h2⟩, h3⟩ k hk
    refine ⟨h2 k hk, ?_⟩
    by_cases h0 : k = 0
    · exact .inl (by omega)
    · right
      have h4 := h3 k hk
      rw [List.nodup_iff_pairwise_ne, List.pairwise_iff_getElem] at h1
      have h5 := h1 (k - 1) k (by omega) hk (by omega)
      have e1 : l.getD k 0 = l[k] := by simp [List.getD, hk]
      have e2 : l.getD (k - 1) 0 = l[k - 1] := by simp [List.getD, show k - 1 < l.length by omega]
      rw [e1, e2] at h4 ⊢
      omega
theorem fview_spec (f : FlowP) (lines : List (List Int)) (coal : List Int) (hf : OkF f) (hl : lines.length ≤ 140737488351232) (hx : ∀ x ∈ lines, x.length ≤ 140737488351232 ∧ ∀ n ∈ x, -9223372036854775808 ≤ n ∧ n ≤ 9223372036854775807) (hcl : coal.length ≤ 140737488351232) (hcb : ∀ n ∈ coal, -9223372036854775808 ≤ n ∧ n ≤ 9223372036854775807) :
    Spec Try.prog 26 [.agg (flowD f), aIss lines, aIs coal] (.rt [.agg (flowD (viewR f lines coal)), aI (errV f lines coal)]) := by
  refine spec_of T_ok Try.func26 (by dsimp only [Try.f26]) rfl rfl (by simp) fun w F => ?_
  have hC := fcheck_spec f hf
  have hK := fknown_spec f hf.l
  have hfl := hf.l
  by_cases hc : checkF f = 0
  rotate_left
  · have hd : (checkF f != 0) = true := by simpa using hc
    repeat' (first
      | (with_reducible refine aw_seq ?_)
      | ((with_reducible refine twoG_intro ?_ ?_) <;> intro hTw <;> first | (exact Bool.noConfusion hTw) | ((try simp only [hTw, Bool.not_true, Bool.not_false, Bool.true_and, Bool.false_and, Bool.and_true, Bool.and_false, Bool.true_or, Bool.false_or, Bool.or_true, Bool.or_false]); (first | (guard_hyp hTw : true = true; clear hTw) | (guard_hyp hTw : false = false; clear hTw) | (revert hTw; intro _))))
      | ((with_reducible refine two_intro ?_ ?_) <;> intro hTw <;> first | (exact Bool.noConfusion hTw) | ((first | (guard_hyp hTw : true = true; clear hTw) | (guard_hyp hTw : false = false; clear hTw) | (revert hTw; intro _))))
      | ((with_reducible refine And.intro ?_ ?_); (focus (first | omega | rfl | decide | grind)))
      | (with_reducible refine aw_block ?_)
      | (with_reducible refine aw_scope ?_)
      | ((first
          | ((with_reducible refine aw_regionA T_ok ?_ ?_); (focus kernel_rfl))
          | ((with_reducible refine aw_drawnA T_ok ?_ ?_ ?_ ?_); (focus kernel_rfl); (focus kernel_rfl); (focus (decide +kernel)))
          | ((with_reducible refine aw_drawnF T_ok ?_ ?_ ?_ ?_); (focus kernel_rfl); (focus kernel_rfl); (focus (decide +kernel)))
          | ((with_reducible refine callK_intro (hC) (by with_unfolding_all rfl) ?_ ?_); (focus kernel_rfl))
          | ((with_reducible refine callI_spec (hC) (by with_unfolding_all rfl) ?_ ?_ ?_); (focus kernel_rfl); (focus kernel_rfl))
          | (with_reducible refine aw_label ?_)
          | ((with_reducible refine aw_rfM ?_ ?_); (focus kernel_rfl))
          | (with_reducible refine aw_skip ?_)
          | (with_reducible refine aw_exit ?_)
          | ((with_reducible refine aw_condM ?_ ?_); (focus kernel_rfl))
          | (with_reducible refine aw_ret ?_)
        ); simp only [↓avP, avQ, if_true, if_false, forall_const, beq_self_eq_true, eq_self, ne_eq, implies_true, reduceIte, Nat.reduceEqDiff, Nat.reduceAdd, Nat.reduceSub, Int.reduceToNat, Nat.reduceLeDiff, Nat.reduceLT, reduceCtorEq, Int.reduceEq, retQ, retL, resV, RetV, RetOk, SubL, intD_B, lotD_B, flowD_B, snocI, snocL, ty_3, ty_27, ty_4, ty_24, ty_43, ty_22, ty_33, ty_65, ty_47, issD_get, hd]; try simp (disch := omega) only [av_w, av_t1, av_tp, Int.toNat_natCast]))
    have he : errV f lines coal = checkF f := by rw [errV, if_pos hc]
    rw [viewR, he, if_neg hc]
    exact ⟨Sub.aggs ⟨rfl, rfl, trivial⟩, Sub.refl _⟩
  rw [hc] at hC
  have hln : ∀ asA r, FnM aIs (fun l => !lineB l) lines asA r → Spec Try.prog 57 (asA ++ [.one (.pt [.c (.func (.func 56) #[] #[])])]) r := by
    rintro asA r ⟨l, hm, rfl, rfl⟩
    exact fview2_spec l (hx l hm).1 (hx l hm).2
  have hL := intss_contains lines (fun l => !lineB l) hl
  have hD := different_spec coal officeB hcl hcb
  have hS := isSorted_spec coal hcl
  have hst : ∀ k, ∀ asA r, FnM aI (fun n => !decide (n ∈ coal)) (lines.getD k []) asA r → Spec Try.prog 60 (asA ++ [.one (.pt [.sl 1 (intD 0) (coal.map intD)])]) r := by
    rintro k asA r ⟨n, hm, rfl, rfl⟩
    exact fview3_spec coal n hcl
  have hcq := coal_eq coal
  have hla : linesB lines f.lots.length = (!(lines.any fun l => !lineB l) && decide (lines.length = f.lots.length)) := by
    unfold linesB
    congr 1
    rw [Bool.eq_iff_iff, List.all_eq_true, Bool.not_eq_true', List.any_eq_false]
    constructor
    · intro h x hx; rw [h x hx]; simp
    · intro h x hx; have := h x hx; simpa using this
  have hbad : (knownF f && linesB lines f.lots.length && coalB coal) = false → errV f lines coal = 1 := fun h => by
    rw [errV, if_neg (by simpa using hc), if_neg (by rw [h]; simp)]
  have hfin : ∀ E : Int, errV f lines coal = 1 → E = 1 → Sub (.agg [.c (.int .i64 0), .c (.slice none 0 0)]) (.agg (flowD (viewR f lines coal))) ∧ Sub (.one (.c (.int .i64 E))) (aI (errV f lines coal)) := fun E he hE => by
    subst hE
    rw [viewR, he, if_neg (by decide)]
    exact ⟨Sub.aggs ⟨rfl, rfl, trivial⟩, Sub.refl _⟩
  cases hk : knownF f with
  | false =>
    repeat' (first
      | (with_reducible refine aw_seq ?_)
      | ((with_reducible refine twoG_intro ?_ ?_) <;> intro hTw <;> first | (exact Bool.noConfusion hTw) | ((try simp only [hTw, Bool.not_true, Bool.not_false, Bool.true_and, Bool.false_and, Bool.and_true, Bool.and_false, Bool.true_or, Bool.false_or, Bool.or_true, Bool.or_false]); (first | (guard_hyp hTw : true = true; clear hTw) | (guard_hyp hTw : false = false; clear hTw) | (revert hTw; intro _))))
      | ((with_reducible refine two_intro ?_ ?_) <;> intro hTw <;> first | (exact Bool.noConfusion hTw) | ((first | (guard_hyp hTw : true = true; clear hTw) | (guard_hyp hTw : false = false; clear hTw) | (revert hTw; intro _))))
      | ((with_reducible refine And.intro ?_ ?_); (focus (first | omega | rfl | decide | grind)))
      | (with_reducible refine aw_block ?_)
      | (with_reducible refine aw_scope ?_)
      | ((first
          | ((with_reducible refine aw_regionA T_ok ?_ ?_); (focus kernel_rfl))
          | ((with_reducible refine aw_drawnA T_ok ?_ ?_ ?_ ?_); (focus kernel_rfl); (focus kernel_rfl); (focus (decide +kernel)))
          | ((with_reducible refine aw_drawnF T_ok ?_ ?_ ?_ ?_); (focus kernel_rfl); (focus kernel_rfl); (focus (decide +kernel)))
          | ((with_reducible refine callK_intro (hC) (by with_unfolding_all rfl) ?_ ?_); (focus kernel_rfl))
          | ((with_reducible refine callI_spec (hC) (by with_unfolding_all rfl) ?_ ?_ ?_); (focus kernel_rfl); (focus kernel_rfl))
          | ((with_reducible refine callK_intro (hK) (by with_unfolding_all rfl) ?_ ?_); (focus kernel_rfl))
          | ((with_reducible refine callI_spec (hK) (by with_unfolding_all rfl) ?_ ?_ ?_); (focus kernel_rfl); (focus kernel_rfl))
          | ((with_reducible refine callK_fz (hL) rfl ?_ ?_ ?_); (focus (repeat' (first | (exact FzA.nil) | (exact FzL.nil) | (exact FzLL.nil) | (exact FzLL_dV _) | (exact Fz.d rfl) | (refine FzA.one ?_ ?_) | (refine FzA.agg ?_ ?_) | (refine FzL.cons ?_ ?_) | (refine FzLL.cons ?_ ?_) | (exact hln) | (refine Fz.fn ?_ (by kernel_rfl) (hln)) | (refine Fz.fc (by kernel_rfl) (hln)) | (refine Fz.pt rfl ?_) | (refine Fz.mp rfl ?_ ?_ ?_) | (refine Fz.row rfl ?_) | (refine Fz.ag ?_))); done); (focus kernel_rfl))
          | ((with_reducible refine callI_fz (hL) rfl ?_ ?_ ?_ ?_); (focus (repeat' (first | (exact FzA.nil) | (exact FzL.nil) | (exact FzLL.nil) | (exact FzLL_dV _) | (exact Fz.d rfl) | (refine FzA.one ?_ ?_) | (refine FzA.agg ?_ ?_) | (refine FzL.cons ?_ ?_) | (refine FzLL.cons ?_ ?_) | (exact hln) | (refine Fz.fn ?_ (by kernel_rfl) (hln)) | (refine Fz.fc (by kernel_rfl) (hln)) | (refine Fz.pt rfl ?_) | (refine Fz.mp rfl ?_ ?_ ?_) | (refine Fz.row rfl ?_) | (refine Fz.ag ?_))); done); (focus kernel_rfl); (focus kernel_rfl))
          | ((with_reducible refine callK_fz (hD) rfl ?_ ?_ ?_); (focus (repeat' (first | (exact FzA.nil) | (exact FzL.nil) | (exact FzLL.nil) | (exact FzLL_dV _) | (exact Fz.d rfl) | (refine FzA.one ?_ ?_) | (refine FzA.agg ?_ ?_) | (refine FzL.cons ?_ ?_) | (refine FzLL.cons ?_ ?_) | (exact office_fn) | (refine Fz.fn ?_ (by kernel_rfl) (office_fn)) | (refine Fz.fc (by kernel_rfl) (office_fn)) | (refine Fz.pt rfl ?_) | (refine Fz.mp rfl ?_ ?_ ?_) | (refine Fz.row rfl ?_) | (refine Fz.ag ?_))); done); (focus kernel_rfl))
          | ((with_reducible refine callI_fz (hD) rfl ?_ ?_ ?_ ?_); (focus (repeat' (first | (exact FzA.nil) | (exact FzL.nil) | (exact FzLL.nil) | (exact FzLL_dV _) | (exact Fz.d rfl) | (refine FzA.one ?_ ?_) | (refine FzA.agg ?_ ?_) | (refine FzL.cons ?_ ?_) | (refine FzLL.cons ?_ ?_) | (exact office_fn) | (refine Fz.fn ?_ (by kernel_rfl) (office_fn)) | (refine Fz.fc (by kernel_rfl) (office_fn)) | (refine Fz.pt rfl ?_) | (refine Fz.mp rfl ?_ ?_ ?_) | (refine Fz.row rfl ?_) | (refine Fz.ag ?_))); done); (focus kernel_rfl); (focus kernel_rfl))
          | ((with_reducible refine callK_skip (.r1 (aB false)) (by with_unfolding_all rfl) ?_ ?_); (focus kernel_rfl))
          | (with_reducible refine aw_label ?_)
          | ((with_reducible refine aw_rfM ?_ ?_); (focus kernel_rfl))
          | (with_reducible refine aw_skip ?_)
          | (with_reducible refine aw_exit ?_)
          | ((with_reducible refine aw_condM ?_ ?_); (focus kernel_rfl))
          | (with_reducible refine aw_ret ?_)
        ); simp only [↓avP, avQ, if_true, if_false, forall_const, beq_self_eq_true, eq_self, ne_eq, implies_true, reduceIte, Nat.reduceEqDiff, Nat.reduceAdd, Nat.reduceSub, Int.reduceToNat, Nat.reduceLeDiff, Nat.reduceLT, reduceCtorEq, Int.reduceEq, retQ, retL, resV, RetV, RetOk, SubL, intD_B, lotD_B, flowD_B, snocI, snocL, ty_3, ty_27, ty_4, ty_24, ty_43, ty_22, ty_33, ty_65, ty_47, issD_get, hk]; try simp (disch := omega) only [av_w, av_t1, av_tp, Int.toNat_natCast]))
    first | exact hfin 1 (hbad (by rw [hk]; rfl)) rfl | exact (hfin 1 (hbad (by rw [hk]; rfl)) rfl).2
  | true =>
    by_cases hll : lines.length = f.lots.length
    rotate_left
    · have g1 : ((lines.length : Int) != (f.lots.length : Int)) = true := by simp; omega
      repeat' (first
        | (with_reducible refine aw_seq ?_)
        | ((with_reducible refine twoG_intro ?_ ?_) <;> intro hTw <;> first | (exact Bool.noConfusion hTw) | ((try simp only [hTw, Bool.not_true, Bool.not_false, Bool.true_and, Bool.false_and, Bool.and_true, Bool.and_false, Bool.true_or, Bool.false_or, Bool.or_true, Bool.or_false]); (first | (guard_hyp hTw : true = true; clear hTw) | (guard_hyp hTw : false = false; clear hTw) | (revert hTw; intro _))))
        | ((with_reducible refine two_intro ?_ ?_) <;> intro hTw <;> first | (exact Bool.noConfusion hTw) | ((first | (guard_hyp hTw : true = true; clear hTw) | (guard_hyp hTw : false = false; clear hTw) | (revert hTw; intro _))))
        | ((with_reducible refine And.intro ?_ ?_); (focus (first | omega | rfl | decide | grind)))
        | (with_reducible refine aw_block ?_)
        | (with_reducible refine aw_scope ?_)
        | ((first
            | ((with_reducible refine aw_regionA T_ok ?_ ?_); (focus kernel_rfl))
            | ((with_reducible refine aw_drawnA T_ok ?_ ?_ ?_ ?_); (focus kernel_rfl); (focus kernel_rfl); (focus (decide +kernel)))
            | ((with_reducible refine aw_drawnF T_ok ?_ ?_ ?_ ?_); (focus kernel_rfl); (focus kernel_rfl); (focus (decide +kernel)))
            | ((with_reducible refine callK_intro (hC) (by with_unfolding_all rfl) ?_ ?_); (focus kernel_rfl))
            | ((with_reducible refine callI_spec (hC) (by with_unfolding_all rfl) ?_ ?_ ?_); (focus kernel_rfl); (focus kernel_rfl))
            | ((with_reducible refine callK_intro (hK) (by with_unfolding_all rfl) ?_ ?_); (focus kernel_rfl))
            | ((with_reducible refine callI_spec (hK) (by with_unfolding_all rfl) ?_ ?_ ?_); (focus kernel_rfl); (focus kernel_rfl))
            | ((with_reducible refine callK_fz (hL) rfl ?_ ?_ ?_); (focus (repeat' (first | (exact FzA.nil) | (exact FzL.nil) | (exact FzLL.nil) | (exact FzLL_dV _) | (exact Fz.d rfl) | (refine FzA.one ?_ ?_) | (refine FzA.agg ?_ ?_) | (refine FzL.cons ?_ ?_) | (refine FzLL.cons ?_ ?_) | (exact hln) | (refine Fz.fn ?_ (by kernel_rfl) (hln)) | (refine Fz.fc (by kernel_rfl) (hln)) | (refine Fz.pt rfl ?_) | (refine Fz.mp rfl ?_ ?_ ?_) | (refine Fz.row rfl ?_) | (refine Fz.ag ?_))); done); (focus kernel_rfl))
            | ((with_reducible refine callI_fz (hL) rfl ?_ ?_ ?_ ?_); (focus (repeat' (first | (exact FzA.nil) | (exact FzL.nil) | (exact FzLL.nil) | (exact FzLL_dV _) | (exact Fz.d rfl) | (refine FzA.one ?_ ?_) | (refine FzA.agg ?_ ?_) | (refine FzL.cons ?_ ?_) | (refine FzLL.cons ?_ ?_) | (exact hln) | (refine Fz.fn ?_ (by kernel_rfl) (hln)) | (refine Fz.fc (by kernel_rfl) (hln)) | (refine Fz.pt rfl ?_) | (refine Fz.mp rfl ?_ ?_ ?_) | (refine Fz.row rfl ?_) | (refine Fz.ag ?_))); done); (focus kernel_rfl); (focus kernel_rfl))
            | ((with_reducible refine callK_fz (hD) rfl ?_ ?_ ?_); (focus (repeat' (first | (exact FzA.nil) | (exact FzL.nil) | (exact FzLL.nil) | (exact FzLL_dV _) | (exact Fz.d rfl) | (refine FzA.one ?_ ?_) | (refine FzA.agg ?_ ?_) | (refine FzL.cons ?_ ?_) | (refine FzLL.cons ?_ ?_) | (exact office_fn) | (refine Fz.fn ?_ (by kernel_rfl) (office_fn)) | (refine Fz.fc (by kernel_rfl) (office_fn)) | (refine Fz.pt rfl ?_) | (refine Fz.mp rfl ?_ ?_ ?_) | (refine Fz.row rfl ?_) | (refine Fz.ag ?_))); done); (focus kernel_rfl))
            | ((with_reducible refine callI_fz (hD) rfl ?_ ?_ ?_ ?_); (focus (repeat' (first | (exact FzA.nil) | (exact FzL.nil) | (exact FzLL.nil) | (exact FzLL_dV _) | (exact Fz.d rfl) | (refine FzA.one ?_ ?_) | (refine FzA.agg ?_ ?_) | (refine FzL.cons ?_ ?_) | (refine FzLL.cons ?_ ?_) | (exact office_fn) | (refine Fz.fn ?_ (by kernel_rfl) (office_fn)) | (refine Fz.fc (by kernel_rfl) (office_fn)) | (refine Fz.pt rfl ?_) | (refine Fz.mp rfl ?_ ?_ ?_) | (refine Fz.row rfl ?_) | (refine Fz.ag ?_))); done); (focus kernel_rfl); (focus kernel_rfl))
            | ((with_reducible refine callK_skip (.r1 (aB false)) (by with_unfolding_all rfl) ?_ ?_); (focus kernel_rfl))
            | (with_reducible refine aw_label ?_)
            | ((with_reducible refine aw_rfM ?_ ?_); (focus kernel_rfl))
            | (with_reducible refine aw_skip ?_)
            | (with_reducible refine aw_exit ?_)
            | ((with_reducible refine aw_condM ?_ ?_); (focus kernel_rfl))
            | (with_reducible refine aw_ret ?_)
          ); simp only [↓avP, avQ, if_true, if_false, forall_const, beq_self_eq_true, eq_self, ne_eq, implies_true, reduceIte, Nat.reduceEqDiff, Nat.reduceAdd, Nat.reduceSub, Int.reduceToNat, Nat.reduceLeDiff, Nat.reduceLT, reduceCtorEq, Int.reduceEq, retQ, retL, resV, RetV, RetOk, SubL, intD_B, lotD_B, flowD_B, snocI, snocL, ty_3, ty_27, ty_4, ty_24, ty_43, ty_22, ty_33, ty_65, ty_47, issD_get, hk, g1]; try simp (disch := omega) only [av_w, av_t1, av_tp, Int.toNat_natCast]))
      first | exact hfin 1 (hbad (by rw [hla, decide_eq_false hll]; simp)) rfl | exact (hfin 1 (hbad (by rw [hla, decide_eq_false hll]; simp)) rfl).2
    have g1 : ((lines.length : Int) != (f.lots.length : Int)) = false := by simp; omega
    cases hany : lines.any fun l => !lineB l with
    | true =>
      repeat' (first
        | (with_reducible refine aw_seq ?_)
        | ((with_reducible refine twoG_intro ?_ ?_) <;> intro hTw <;> first | (exact Bool.noConfusion hTw) | ((try simp only [hTw, Bool.not_true, Bool.not_false, Bool.true_and, Bool.false_and, Bool.and_true, Bool.and_false, Bool.true_or, Bool.false_or, Bool.or_true, Bool.or_false]); (first | (guard_hyp hTw : true = true; clear hTw) | (guard_hyp hTw : false = false; clear hTw) | (revert hTw; intro _))))
        | ((with_reducible refine two_intro ?_ ?_) <;> intro hTw <;> first | (exact Bool.noConfusion hTw) | ((first | (guard_hyp hTw : true = true; clear hTw) | (guard_hyp hTw : false = false; clear hTw) | (revert hTw; intro _))))
        | ((with_reducible refine And.intro ?_ ?_); (focus (first | omega | rfl | decide | grind)))
        | (with_reducible refine aw_block ?_)
        | (with_reducible refine aw_scope ?_)
        | ((first
            | ((with_reducible refine aw_regionA T_ok ?_ ?_); (focus kernel_rfl))
            | ((with_reducible refine aw_drawnA T_ok ?_ ?_ ?_ ?_); (focus kernel_rfl); (focus kernel_rfl); (focus (decide +kernel)))
            | ((with_reducible refine aw_drawnF T_ok ?_ ?_ ?_ ?_); (focus kernel_rfl); (focus kernel_rfl); (focus (decide +kernel)))
            | ((with_reducible refine callK_intro (hC) (by with_unfolding_all rfl) ?_ ?_); (focus kernel_rfl))
            | ((with_reducible refine callI_spec (hC) (by with_unfolding_all rfl) ?_ ?_ ?_); (focus kernel_rfl); (focus kernel_rfl))
            | ((with_reducible refine callK_intro (hK) (by with_unfolding_all rfl) ?_ ?_); (focus kernel_rfl))
            | ((with_reducible refine callI_spec (hK) (by with_unfolding_all rfl) ?_ ?_ ?_); (focus kernel_rfl); (focus kernel_rfl))
            | ((with_reducible refine callK_fz (hL) rfl ?_ ?_ ?_); (focus (repeat' (first | (exact FzA.nil) | (exact FzL.nil) | (exact FzLL.nil) | (exact FzLL_dV _) | (exact Fz.d rfl) | (refine FzA.one ?_ ?_) | (refine FzA.agg ?_ ?_) | (refine FzL.cons ?_ ?_) | (refine FzLL.cons ?_ ?_) | (exact hln) | (refine Fz.fn ?_ (by kernel_rfl) (hln)) | (refine Fz.fc (by kernel_rfl) (hln)) | (refine Fz.pt rfl ?_) | (refine Fz.mp rfl ?_ ?_ ?_) | (refine Fz.row rfl ?_) | (refine Fz.ag ?_))); done); (focus kernel_rfl))
            | ((with_reducible refine callI_fz (hL) rfl ?_ ?_ ?_ ?_); (focus (repeat' (first | (exact FzA.nil) | (exact FzL.nil) | (exact FzLL.nil) | (exact FzLL_dV _) | (exact Fz.d rfl) | (refine FzA.one ?_ ?_) | (refine FzA.agg ?_ ?_) | (refine FzL.cons ?_ ?_) | (refine FzLL.cons ?_ ?_) | (exact hln) | (refine Fz.fn ?_ (by kernel_rfl) (hln)) | (refine Fz.fc (by kernel_rfl) (hln)) | (refine Fz.pt rfl ?_) | (refine Fz.mp rfl ?_ ?_ ?_) | (refine Fz.row rfl ?_) | (refine Fz.ag ?_))); done); (focus kernel_rfl); (focus kernel_rfl))
            | ((with_reducible refine callK_fz (hD) rfl ?_ ?_ ?_); (focus (repeat' (first | (exact FzA.nil) | (exact FzL.nil) | (exact FzLL.nil) | (exact FzLL_dV _) | (exact Fz.d rfl) | (refine FzA.one ?_ ?_) | (refine FzA.agg ?_ ?_) | (refine FzL.cons ?_ ?_) | (refine FzLL.cons ?_ ?_) | (exact office_fn) | (refine Fz.fn ?_ (by kernel_rfl) (office_fn)) | (refine Fz.fc (by kernel_rfl) (office_fn)) | (refine Fz.pt rfl ?_) | (refine Fz.mp rfl ?_ ?_ ?_) | (refine Fz.row rfl ?_) | (refine Fz.ag ?_))); done); (focus kernel_rfl))
            | ((with_reducible refine callI_fz (hD) rfl ?_ ?_ ?_ ?_); (focus (repeat' (first | (exact FzA.nil) | (exact FzL.nil) | (exact FzLL.nil) | (exact FzLL_dV _) | (exact Fz.d rfl) | (refine FzA.one ?_ ?_) | (refine FzA.agg ?_ ?_) | (refine FzL.cons ?_ ?_) | (refine FzLL.cons ?_ ?_) | (exact office_fn) | (refine Fz.fn ?_ (by kernel_rfl) (office_fn)) | (refine Fz.fc (by kernel_rfl) (office_fn)) | (refine Fz.pt rfl ?_) | (refine Fz.mp rfl ?_ ?_ ?_) | (refine Fz.row rfl ?_) | (refine Fz.ag ?_))); done); (focus kernel_rfl); (focus kernel_rfl))
            | ((with_reducible refine callK_skip (.r1 (aB false)) (by with_unfolding_all rfl) ?_ ?_); (focus kernel_rfl))
            | (with_reducible refine aw_label ?_)
            | ((with_reducible refine aw_rfM ?_ ?_); (focus kernel_rfl))
            | (with_reducible refine aw_skip ?_)
            | (with_reducible refine aw_exit ?_)
            | ((with_reducible refine aw_condM ?_ ?_); (focus kernel_rfl))
            | (with_reducible refine aw_ret ?_)
          ); simp only [↓avP, avQ, if_true, if_false, forall_const, beq_self_eq_true, eq_self, ne_eq, implies_true, reduceIte, Nat.reduceEqDiff, Nat.reduceAdd, Nat.reduceSub, Int.reduceToNat, Nat.reduceLeDiff, Nat.reduceLT, reduceCtorEq, Int.reduceEq, retQ, retL, resV, RetV, RetOk, SubL, intD_B, lotD_B, flowD_B, snocI, snocL, ty_3, ty_27, ty_4, ty_24, ty_43, ty_22, ty_33, ty_65, ty_47, issD_get, hk, g1, hany]; try simp (disch := omega) only [av_w, av_t1, av_tp, Int.toNat_natCast]))
      first | exact hfin 1 (hbad (by rw [hla, hany]; simp)) rfl | exact (hfin 1 (hbad (by rw [hla, hany]; simp)) rfl).2
    | false =>
      cases hdd : diffB officeB coal with
      | false =>
        repeat' (first
          | (with_reducible refine aw_seq ?_)
          | ((with_reducible refine twoG_intro ?_ ?_) <;> intro hTw <;> first | (exact Bool.noConfusion hTw) | ((try simp only [hTw, Bool.not_true, Bool.not_false, Bool.true_and, Bool.false_and, Bool.and_true, Bool.and_false, Bool.true_or, Bool.false_or, Bool.or_true, Bool.or_false]); (first | (guard_hyp hTw : true = true; clear hTw) | (guard_hyp hTw : false = false; clear hTw) | (revert hTw; intro _))))
          | ((with_reducible refine two_intro ?_ ?_) <;> intro hTw <;> first | (exact Bool.noConfusion hTw) | ((first | (guard_hyp hTw : true = true; clear hTw) | (guard_hyp hTw : false = false; clear hTw) | (revert hTw; intro _))))
          | ((with_reducible refine And.intro ?_ ?_); (focus (first | omega | rfl | decide | grind)))
          | (with_reducible refine aw_block ?_)
          | (with_reducible refine aw_scope ?_)
          | ((first
              | ((with_reducible refine aw_regionA T_ok ?_ ?_); (focus kernel_rfl))
              | ((with_reducible refine aw_drawnA T_ok ?_ ?_ ?_ ?_); (focus kernel_rfl); (focus kernel_rfl); (focus (decide +kernel)))
              | ((with_reducible refine aw_drawnF T_ok ?_ ?_ ?_ ?_); (focus kernel_rfl); (focus kernel_rfl); (focus (decide +kernel)))
              | ((with_reducible refine callK_intro (hC) (by with_unfolding_all rfl) ?_ ?_); (focus kernel_rfl))
              | ((with_reducible refine callI_spec (hC) (by with_unfolding_all rfl) ?_ ?_ ?_); (focus kernel_rfl); (focus kernel_rfl))
              | ((with_reducible refine callK_intro (hK) (by with_unfolding_all rfl) ?_ ?_); (focus kernel_rfl))
              | ((with_reducible refine callI_spec (hK) (by with_unfolding_all rfl) ?_ ?_ ?_); (focus kernel_rfl); (focus kernel_rfl))
              | ((with_reducible refine callK_fz (hL) rfl ?_ ?_ ?_); (focus (repeat' (first | (exact FzA.nil) | (exact FzL.nil) | (exact FzLL.nil) | (exact FzLL_dV _) | (exact Fz.d rfl) | (refine FzA.one ?_ ?_) | (refine FzA.agg ?_ ?_) | (refine FzL.cons ?_ ?_) | (refine FzLL.cons ?_ ?_) | (exact hln) | (refine Fz.fn ?_ (by kernel_rfl) (hln)) | (refine Fz.fc (by kernel_rfl) (hln)) | (refine Fz.pt rfl ?_) | (refine Fz.mp rfl ?_ ?_ ?_) | (refine Fz.row rfl ?_) | (refine Fz.ag ?_))); done); (focus kernel_rfl))
              | ((with_reducible refine callI_fz (hL) rfl ?_ ?_ ?_ ?_); (focus (repeat' (first | (exact FzA.nil) | (exact FzL.nil) | (exact FzLL.nil) | (exact FzLL_dV _) | (exact Fz.d rfl) | (refine FzA.one ?_ ?_) | (refine FzA.agg ?_ ?_) | (refine FzL.cons ?_ ?_) | (refine FzLL.cons ?_ ?_) | (exact hln) | (refine Fz.fn ?_ (by kernel_rfl) (hln)) | (refine Fz.fc (by kernel_rfl) (hln)) | (refine Fz.pt rfl ?_) | (refine Fz.mp rfl ?_ ?_ ?_) | (refine Fz.row rfl ?_) | (refine Fz.ag ?_))); done); (focus kernel_rfl); (focus kernel_rfl))
              | ((with_reducible refine callK_fz (hD) rfl ?_ ?_ ?_); (focus (repeat' (first | (exact FzA.nil) | (exact FzL.nil) | (exact FzLL.nil) | (exact FzLL_dV _) | (exact Fz.d rfl) | (refine FzA.one ?_ ?_) | (refine FzA.agg ?_ ?_) | (refine FzL.cons ?_ ?_) | (refine FzLL.cons ?_ ?_) | (exact office_fn) | (refine Fz.fn ?_ (by kernel_rfl) (office_fn)) | (refine Fz.fc (by kernel_rfl) (office_fn)) | (refine Fz.pt rfl ?_) | (refine Fz.mp rfl ?_ ?_ ?_) | (refine Fz.row rfl ?_) | (refine Fz.ag ?_))); done); (focus kernel_rfl))
              | ((with_reducible refine callI_fz (hD) rfl ?_ ?_ ?_ ?_); (focus (repeat' (first | (exact FzA.nil) | (exact FzL.nil) | (exact FzLL.nil) | (exact FzLL_dV _) | (exact Fz.d rfl) | (refine FzA.one ?_ ?_) | (refine FzA.agg ?_ ?_) | (refine FzL.cons ?_ ?_) | (refine FzLL.cons ?_ ?_) | (exact office_fn) | (refine Fz.fn ?_ (by kernel_rfl) (office_fn)) | (refine Fz.fc (by kernel_rfl) (office_fn)) | (refine Fz.pt rfl ?_) | (refine Fz.mp rfl ?_ ?_ ?_) | (refine Fz.row rfl ?_) | (refine Fz.ag ?_))); done); (focus kernel_rfl); (focus kernel_rfl))
              | ((with_reducible refine callK_skip (.r1 (aB false)) (by with_unfolding_all rfl) ?_ ?_); (focus kernel_rfl))
              | (with_reducible refine aw_label ?_)
              | ((with_reducible refine aw_rfM ?_ ?_); (focus kernel_rfl))
              | (with_reducible refine aw_skip ?_)
              | (with_reducible refine aw_exit ?_)
              | ((with_reducible refine aw_condM ?_ ?_); (focus kernel_rfl))
              | (with_reducible refine aw_ret ?_)
            ); simp only [↓avP, avQ, if_true, if_false, forall_const, beq_self_eq_true, eq_self, ne_eq, implies_true, reduceIte, Nat.reduceEqDiff, Nat.reduceAdd, Nat.reduceSub, Int.reduceToNat, Nat.reduceLeDiff, Nat.reduceLT, reduceCtorEq, Int.reduceEq, retQ, retL, resV, RetV, RetOk, SubL, intD_B, lotD_B, flowD_B, snocI, snocL, ty_3, ty_27, ty_4, ty_24, ty_43, ty_22, ty_33, ty_65, ty_47, issD_get, hk, g1, hany, hdd]; try simp (disch := omega) only [av_w, av_t1, av_tp, Int.toNat_natCast]))
        first | exact hfin 1 (hbad (by rw [hcq, hdd]; simp)) rfl | exact (hfin 1 (hbad (by rw [hcq, hdd]; simp)) rfl).2
      | true =>
        cases hss : sortedB coal with
        | false =>
          repeat' (first
            | (with_reducible refine aw_seq ?_)
            | ((with_reducible refine twoG_intro ?_ ?_) <;> intro hTw <;> first | (exact Bool.noConfusion hTw) | ((try simp only [hTw, Bool.not_true, Bool.not_false, Bool.true_and, Bool.false_and, Bool.and_true, Bool.and_false, Bool.true_or, Bool.false_or, Bool.or_true, Bool.or_false]); (first | (guard_hyp hTw : true = true; clear hTw) | (guard_hyp hTw : false = false; clear hTw) | (revert hTw; intro _))))
            | ((with_reducible refine two_intro ?_ ?_) <;> intro hTw <;> first | (exact Bool.noConfusion hTw) | ((first | (guard_hyp hTw : true = true; clear hTw) | (guard_hyp hTw : false = false; clear hTw) | (revert hTw; intro _))))
            | ((with_reducible refine And.intro ?_ ?_); (focus (first | omega | rfl | decide | grind)))
            | (with_reducible refine aw_block ?_)
            | (with_reducible refine aw_scope ?_)
            | ((first
                | ((with_reducible refine aw_regionA T_ok ?_ ?_); (focus kernel_rfl))
                | ((with_reducible refine aw_drawnA T_ok ?_ ?_ ?_ ?_); (focus kernel_rfl); (focus kernel_rfl); (focus (decide +kernel)))
                | ((with_reducible refine aw_drawnF T_ok ?_ ?_ ?_ ?_); (focus kernel_rfl); (focus kernel_rfl); (focus (decide +kernel)))
                | ((with_reducible refine callK_intro (hC) (by with_unfolding_all rfl) ?_ ?_); (focus kernel_rfl))
                | ((with_reducible refine callI_spec (hC) (by with_unfolding_all rfl) ?_ ?_ ?_); (focus kernel_rfl); (focus kernel_rfl))
                | ((with_reducible refine callK_intro (hK) (by with_unfolding_all rfl) ?_ ?_); (focus kernel_rfl))
                | ((with_reducible refine callI_spec (hK) (by with_unfolding_all rfl) ?_ ?_ ?_); (focus kernel_rfl); (focus kernel_rfl))
                | ((with_reducible refine callK_fz (hL) rfl ?_ ?_ ?_); (focus (repeat' (first | (exact FzA.nil) | (exact FzL.nil) | (exact FzLL.nil) | (exact FzLL_dV _) | (exact Fz.d rfl) | (refine FzA.one ?_ ?_) | (refine FzA.agg ?_ ?_) | (refine FzL.cons ?_ ?_) | (refine FzLL.cons ?_ ?_) | (exact hln) | (refine Fz.fn ?_ (by kernel_rfl) (hln)) | (refine Fz.fc (by kernel_rfl) (hln)) | (refine Fz.pt rfl ?_) | (refine Fz.mp rfl ?_ ?_ ?_) | (refine Fz.row rfl ?_) | (refine Fz.ag ?_))); done); (focus kernel_rfl))
                | ((with_reducible refine callI_fz (hL) rfl ?_ ?_ ?_ ?_); (focus (repeat' (first | (exact FzA.nil) | (exact FzL.nil) | (exact FzLL.nil) | (exact FzLL_dV _) | (exact Fz.d rfl) | (refine FzA.one ?_ ?_) | (refine FzA.agg ?_ ?_) | (refine FzL.cons ?_ ?_) | (refine FzLL.cons ?_ ?_) | (exact hln) | (refine Fz.fn ?_ (by kernel_rfl) (hln)) | (refine Fz.fc (by kernel_rfl) (hln)) | (refine Fz.pt rfl ?_) | (refine Fz.mp rfl ?_ ?_ ?_) | (refine Fz.row rfl ?_) | (refine Fz.ag ?_))); done); (focus kernel_rfl); (focus kernel_rfl))
                | ((with_reducible refine callK_fz (hD) rfl ?_ ?_ ?_); (focus (repeat' (first | (exact FzA.nil) | (exact FzL.nil) | (exact FzLL.nil) | (exact FzLL_dV _) | (exact Fz.d rfl) | (refine FzA.one ?_ ?_) | (refine FzA.agg ?_ ?_) | (refine FzL.cons ?_ ?_) | (refine FzLL.cons ?_ ?_) | (exact office_fn) | (refine Fz.fn ?_ (by kernel_rfl) (office_fn)) | (refine Fz.fc (by kernel_rfl) (office_fn)) | (refine Fz.pt rfl ?_) | (refine Fz.mp rfl ?_ ?_ ?_) | (refine Fz.row rfl ?_) | (refine Fz.ag ?_))); done); (focus kernel_rfl))
                | ((with_reducible refine callI_fz (hD) rfl ?_ ?_ ?_ ?_); (focus (repeat' (first | (exact FzA.nil) | (exact FzL.nil) | (exact FzLL.nil) | (exact FzLL_dV _) | (exact Fz.d rfl) | (refine FzA.one ?_ ?_) | (refine FzA.agg ?_ ?_) | (refine FzL.cons ?_ ?_) | (refine FzLL.cons ?_ ?_) | (exact office_fn) | (refine Fz.fn ?_ (by kernel_rfl) (office_fn)) | (refine Fz.fc (by kernel_rfl) (office_fn)) | (refine Fz.pt rfl ?_) | (refine Fz.mp rfl ?_ ?_ ?_) | (refine Fz.row rfl ?_) | (refine Fz.ag ?_))); done); (focus kernel_rfl); (focus kernel_rfl))
                | ((with_reducible refine callK_intro (hS) (by with_unfolding_all rfl) ?_ ?_); (focus kernel_rfl))
                | ((with_reducible refine callI_spec (hS) (by with_unfolding_all rfl) ?_ ?_ ?_); (focus kernel_rfl); (focus kernel_rfl))
                | ((with_reducible refine callK_skip (.r1 (aB false)) (by with_unfolding_all rfl) ?_ ?_); (focus kernel_rfl))
                | (with_reducible refine aw_label ?_)
                | ((with_reducible refine aw_rfM ?_ ?_); (focus kernel_rfl))
                | (with_reducible refine aw_skip ?_)
                | (with_reducible refine aw_exit ?_)
                | ((with_reducible refine aw_condM ?_ ?_); (focus kernel_rfl))
                | (with_reducible refine aw_ret ?_)
              ); simp only [↓avP, avQ, if_true, if_false, forall_const, beq_self_eq_true, eq_self, ne_eq, implies_true, reduceIte, Nat.reduceEqDiff, Nat.reduceAdd, Nat.reduceSub, Int.reduceToNat, Nat.reduceLeDiff, Nat.reduceLT, reduceCtorEq, Int.reduceEq, retQ, retL, resV, RetV, RetOk, SubL, intD_B, lotD_B, flowD_B, snocI, snocL, ty_3, ty_27, ty_4, ty_24, ty_43, ty_22, ty_33, ty_65, ty_47, issD_get, hk, g1, hany, hdd, hss]; try simp (disch := omega) only [av_w, av_t1, av_tp, Int.toNat_natCast]))
          first | exact hfin 1 (hbad (by rw [hcq, hss]; simp)) rfl | exact (hfin 1 (hbad (by rw [hcq, hss]; simp)) rfl).2
        | true =>
          have he : errV f lines coal = 0 := by rw [errV, if_neg (by simpa using hc), if_pos (by rw [hk, hla, hany, hcq, hdd, hss, decide_eq_true hll]; rfl)]
          repeat' (first
            | (with_reducible refine aw_seq ?_)
            | ((with_reducible refine twoG_intro ?_ ?_) <;> intro hTw <;> first | (exact Bool.noConfusion hTw) | ((try simp only [hTw, Bool.not_true, Bool.not_false, Bool.true_and, Bool.false_and, Bool.and_true, Bool.and_false, Bool.true_or, Bool.false_or, Bool.or_true, Bool.or_false]); (first | (guard_hyp hTw : true = true; clear hTw) | (guard_hyp hTw : false = false; clear hTw) | (revert hTw; intro _))))
            | ((with_reducible refine two_intro ?_ ?_) <;> intro hTw <;> first | (exact Bool.noConfusion hTw) | ((first | (guard_hyp hTw : true = true; clear hTw) | (guard_hyp hTw : false = false; clear hTw) | (revert hTw; intro _))))
            | ((with_reducible refine And.intro ?_ ?_); (focus (first | omega | rfl | decide | grind)))
            | (with_reducible refine aw_block ?_)
            | (with_reducible refine aw_scope ?_)
            | ((first
                | ((with_reducible refine aw_regionA T_ok ?_ ?_); (focus kernel_rfl))
                | ((with_reducible refine aw_drawnA T_ok ?_ ?_ ?_ ?_); (focus kernel_rfl); (focus kernel_rfl); (focus (decide +kernel)))
                | ((with_reducible refine aw_drawnF T_ok ?_ ?_ ?_ ?_); (focus kernel_rfl); (focus kernel_rfl); (focus (decide +kernel)))
                | ((with_reducible refine callK_intro (hC) (by with_unfolding_all rfl) ?_ ?_); (focus kernel_rfl))
                | ((with_reducible refine callI_spec (hC) (by with_unfolding_all rfl) ?_ ?_ ?_); (focus kernel_rfl); (focus kernel_rfl))
                | ((with_reducible refine callK_intro (hK) (by with_unfolding_all rfl) ?_ ?_); (focus kernel_rfl))
                | ((with_reducible refine callI_spec (hK) (by with_unfolding_all rfl) ?_ ?_ ?_); (focus kernel_rfl); (focus kernel_rfl))
                | ((with_reducible refine callK_fz (hL) rfl ?_ ?_ ?_); (focus (repeat' (first | (exact FzA.nil) | (exact FzL.nil) | (exact FzLL.nil) | (exact FzLL_dV _) | (exact Fz.d rfl) | (refine FzA.one ?_ ?_) | (refine FzA.agg ?_ ?_) | (refine FzL.cons ?_ ?_) | (refine FzLL.cons ?_ ?_) | (exact hln) | (refine Fz.fn ?_ (by kernel_rfl) (hln)) | (refine Fz.fc (by kernel_rfl) (hln)) | (refine Fz.pt rfl ?_) | (refine Fz.mp rfl ?_ ?_ ?_) | (refine Fz.row rfl ?_) | (refine Fz.ag ?_))); done); (focus kernel_rfl))
                | ((with_reducible refine callI_fz (hL) rfl ?_ ?_ ?_ ?_); (focus (repeat' (first | (exact FzA.nil) | (exact FzL.nil) | (exact FzLL.nil) | (exact FzLL_dV _) | (exact Fz.d rfl) | (refine FzA.one ?_ ?_) | (refine FzA.agg ?_ ?_) | (refine FzL.cons ?_ ?_) | (refine FzLL.cons ?_ ?_) | (exact hln) | (refine Fz.fn ?_ (by kernel_rfl) (hln)) | (refine Fz.fc (by kernel_rfl) (hln)) | (refine Fz.pt rfl ?_) | (refine Fz.mp rfl ?_ ?_ ?_) | (refine Fz.row rfl ?_) | (refine Fz.ag ?_))); done); (focus kernel_rfl); (focus kernel_rfl))
                | ((with_reducible refine callK_fz (hD) rfl ?_ ?_ ?_); (focus (repeat' (first | (exact FzA.nil) | (exact FzL.nil) | (exact FzLL.nil) | (exact FzLL_dV _) | (exact Fz.d rfl) | (refine FzA.one ?_ ?_) | (refine FzA.agg ?_ ?_) | (refine FzL.cons ?_ ?_) | (refine FzLL.cons ?_ ?_) | (exact office_fn) | (refine Fz.fn ?_ (by kernel_rfl) (office_fn)) | (refine Fz.fc (by kernel_rfl) (office_fn)) | (refine Fz.pt rfl ?_) | (refine Fz.mp rfl ?_ ?_ ?_) | (refine Fz.row rfl ?_) | (refine Fz.ag ?_))); done); (focus kernel_rfl))
                | ((with_reducible refine callI_fz (hD) rfl ?_ ?_ ?_ ?_); (focus (repeat' (first | (exact FzA.nil) | (exact FzL.nil) | (exact FzLL.nil) | (exact FzLL_dV _) | (exact Fz.d rfl) | (refine FzA.one ?_ ?_) | (refine FzA.agg ?_ ?_) | (refine FzL.cons ?_ ?_) | (refine FzLL.cons ?_ ?_) | (exact office_fn) | (refine Fz.fn ?_ (by kernel_rfl) (office_fn)) | (refine Fz.fc (by kernel_rfl) (office_fn)) | (refine Fz.pt rfl ?_) | (refine Fz.mp rfl ?_ ?_ ?_) | (refine Fz.row rfl ?_) | (refine Fz.ag ?_))); done); (focus kernel_rfl); (focus kernel_rfl))
                | ((with_reducible refine callK_intro (hS) (by with_unfolding_all rfl) ?_ ?_); (focus kernel_rfl))
                | ((with_reducible refine callI_spec (hS) (by with_unfolding_all rfl) ?_ ?_ ?_); (focus kernel_rfl); (focus kernel_rfl))
                | (with_reducible refine aw_label ?_)
                | ((with_reducible refine aw_rfM ?_ ?_); (focus kernel_rfl))
                | (with_reducible refine aw_skip ?_)
                | (with_reducible refine aw_exit ?_)
                | ((with_reducible refine aw_condM ?_ ?_); (focus kernel_rfl))
                | (with_reducible refine aw_ret ?_)
              ); simp only [↓avP, avQ, if_true, if_false, forall_const, beq_self_eq_true, eq_self, ne_eq, implies_true, reduceIte, Nat.reduceEqDiff, Nat.reduceAdd, Nat.reduceSub, Int.reduceToNat, Nat.reduceLeDiff, Nat.reduceLT, reduceCtorEq, Int.reduceEq, retQ, retL, resV, RetV, RetOk, SubL, intD_B, lotD_B, flowD_B, snocI, snocL, ty_3, ty_27, ty_4, ty_24, ty_43, ty_22, ty_33, ty_65, ty_47, issD_get, hk, g1, hany, hdd, hss]; try simp (disch := omega) only [av_w, av_t1, av_tp, Int.toNat_natCast]))
          have z2 := (checkF_zero hc).2.1
          refine aw_loopI (fun k : Nat => ⟨[(1, vIss lines), (6, .ptr 2 0), (7, vI 0), (11, .fn 60 [.ptr 1 0]), (54, vLots f.lots), (55, vI f.lots.length), (56, vI k)],
            [(4, .tok 43 3 (viewEs f lines coal k).length), (2, .cells 24 [vI f.senders, .ow 4 3 (lotD default) (viewEs f lines coal k)]), (1, .cells 27 [vIs coal])], 5⟩)
            (fun k => k ≤ f.lots.length) (fun k => f.lots.length - k) 0 (Nat.zero_le _) (wk_of [(1, some 1), (2, some 2), (4, none)] rfl rfl ?_ ?_) ?_
          · simp only [wkT, wkB, wkB1, subV, subVs, subD, subB, lkN_n, lkN_c, lkT_n, lkT_c, lkB_n, lkB_c, if_true, if_false, reduceIte, Nat.reduceEqDiff, true_and, and_true, and_self, inT, ofA]
            (repeat' (first | exact trivial | rfl | exact rfl | exact subVs_d _ _ | exact subVs_dm _ _ | exact subD_refl _ | refine And.intro ?_ ?_))
          · simp only [wkT, wkB, wkB1, subV, subVs, subD, subB, lkN_n, lkN_c, lkT_n, lkT_c, lkB_n, lkB_c, if_true, if_false, reduceIte, Nat.reduceEqDiff, true_and, and_true, and_self, inT, ofA]
            (repeat' (first | exact trivial | rfl | exact rfl | exact subVs_d _ _ | exact subVs_dm _ _ | exact subD_refl _ | refine And.intro ?_ ?_))
          intro k hkl
          have hvl := viewEs_len f lines coal k
          rcases Nat.lt_or_ge k f.lots.length with hlt | hge
          · have hd := ltd hlt
            have hxl : (lines.getD k []).length ≤ 140737488351232 := (hx _ (mem_getD (by omega))).1
            have hI := ints_contains (lines.getD k []) (fun n => !decide (n ∈ coal)) hxl
            have hes := viewEs_succ f lines coal k
            have hsb : ((lines.getD k []).any fun n => !decide (n ∈ coal)) = !seesB lines coal k := by
              unfold seesB
              rw [Bool.eq_iff_iff, List.any_eq_true, Bool.not_eq_true', List.all_eq_false]
              constructor
              · rintro ⟨x, h1, h2⟩; exact ⟨x, h1, by simpa using h2⟩
              · rintro ⟨x, h1, h2⟩; exact ⟨x, h1, by simpa using h2⟩
            have hstk := hst k
            cases hse : seesB lines coal k with
            | true =>
              rw [viewE, if_pos hse] at hes
              rw [hse] at hsb
              repeat' (first
                | (with_reducible refine aw_seq ?_)
                | ((with_reducible refine twoG_intro ?_ ?_) <;> intro hTw <;> first | (exact Bool.noConfusion hTw) | ((try simp only [hTw, Bool.not_true, Bool.not_false, Bool.true_and, Bool.false_and, Bool.and_true, Bool.and_false, Bool.true_or, Bool.false_or, Bool.or_true, Bool.or_false]); (first | (guard_hyp hTw : true = true; clear hTw) | (guard_hyp hTw : false = false; clear hTw) | (revert hTw; intro _))))
                | ((with_reducible refine two_intro ?_ ?_) <;> intro hTw <;> first | (exact Bool.noConfusion hTw) | ((first | (guard_hyp hTw : true = true; clear hTw) | (guard_hyp hTw : false = false; clear hTw) | (revert hTw; intro _))))
                | ((with_reducible refine And.intro ?_ ?_); (focus (first | omega | rfl | decide | grind)))
                | (with_reducible refine aw_block ?_)
                | (with_reducible refine aw_scope ?_)
                | ((first
                    | ((with_reducible refine aw_regionA T_ok ?_ ?_); (focus kernel_rfl))
                    | ((with_reducible refine aw_drawnA T_ok ?_ ?_ ?_ ?_); (focus kernel_rfl); (focus kernel_rfl); (focus (decide +kernel)))
                    | ((with_reducible refine aw_drawnF T_ok ?_ ?_ ?_ ?_); (focus kernel_rfl); (focus kernel_rfl); (focus (decide +kernel)))
                    | ((with_reducible refine callK_fz (hI) rfl ?_ ?_ ?_); (focus (repeat' (first | (exact FzA.nil) | (exact FzL.nil) | (exact FzLL.nil) | (exact FzLL_dV _) | (exact Fz.d rfl) | (refine FzA.one ?_ ?_) | (refine FzA.agg ?_ ?_) | (refine FzL.cons ?_ ?_) | (refine FzLL.cons ?_ ?_) | (exact hstk) | (refine Fz.fn ?_ (by kernel_rfl) (hstk)) | (refine Fz.fc (by kernel_rfl) (hstk)) | (refine Fz.pt rfl ?_) | (refine Fz.mp rfl ?_ ?_ ?_) | (refine Fz.row rfl ?_) | (refine Fz.ag ?_))); done); (focus kernel_rfl))
                    | ((with_reducible refine callI_fz (hI) rfl ?_ ?_ ?_ ?_); (focus (repeat' (first | (exact FzA.nil) | (exact FzL.nil) | (exact FzLL.nil) | (exact FzLL_dV _) | (exact Fz.d rfl) | (refine FzA.one ?_ ?_) | (refine FzA.agg ?_ ?_) | (refine FzL.cons ?_ ?_) | (refine FzLL.cons ?_ ?_) | (exact hstk) | (refine Fz.fn ?_ (by kernel_rfl) (hstk)) | (refine Fz.fc (by kernel_rfl) (hstk)) | (refine Fz.pt rfl ?_) | (refine Fz.mp rfl ?_ ?_ ?_) | (refine Fz.row rfl ?_) | (refine Fz.ag ?_))); done); (focus kernel_rfl); (focus kernel_rfl))
                    | (with_reducible refine aw_label ?_)
                    | ((with_reducible refine aw_rfM ?_ ?_); (focus kernel_rfl))
                    | (with_reducible refine aw_skip ?_)
                    | (with_reducible refine aw_exit ?_)
                    | ((with_reducible refine aw_condM ?_ ?_); (focus kernel_rfl))
                    | (with_reducible refine aw_ret ?_)
                  ); simp only [↓avP, avQ, if_true, if_false, forall_const, beq_self_eq_true, eq_self, ne_eq, implies_true, reduceIte, Nat.reduceEqDiff, Nat.reduceAdd, Nat.reduceSub, Int.reduceToNat, Nat.reduceLeDiff, Nat.reduceLT, reduceCtorEq, Int.reduceEq, retQ, retL, resV, RetV, RetOk, SubL, intD_B, lotD_B, flowD_B, snocI, snocL, ty_3, ty_27, ty_4, ty_24, ty_43, ty_22, ty_33, ty_65, ty_47, issD_get, hd, hsb]; try simp (disch := omega) only [av_w, av_t1, av_tp, Int.toNat_natCast]))
              refine ⟨k + 1, by omega, by dsimp only; omega, wk_of [(1, some 1), (2, some 2), (4, some 7)] rfl rfl ?_ ?_⟩
              · simp only [wkT, wkB, wkB1, subV, subVs, subD, subB, lkN_n, lkN_c, lkT_n, lkT_c, lkB_n, lkB_c, if_true, if_false, reduceIte, Nat.reduceEqDiff, true_and, and_true, and_self, inT, ofA]
                (repeat' (first | exact trivial | rfl | exact rfl | exact subVs_d _ _ | exact subVs_dm _ _ | exact subD_refl _ | refine And.intro ?_ ?_))
              · simp only [wkT, wkB, wkB1, subV, subVs, subD, subB, lkN_n, lkN_c, lkT_n, lkT_c, lkB_n, lkB_c, if_true, if_false, reduceIte, Nat.reduceEqDiff, true_and, and_true, and_self, inT, ofA]
                rw [hes]
                (repeat' (first | (simp; done) | exact trivial | rfl | exact rfl | exact subVs_d _ _ | exact subVs_dm _ _ | exact subD_refl _ | refine And.intro ?_ ?_))
            | false =>
              rw [viewE, if_neg (by rw [hse]; simp)] at hes
              rw [hse] at hsb
              have ht1 : List.take 1 (dV (lotD (f.lots.getD k default))) = [V.d (.sl 1 (intD 0) ((f.lots.getD k default).inn.map intD))] := rfl
              repeat' (first
                | (with_reducible refine aw_seq ?_)
                | ((with_reducible refine twoG_intro ?_ ?_) <;> intro hTw <;> first | (exact Bool.noConfusion hTw) | ((try simp only [hTw, Bool.not_true, Bool.not_false, Bool.true_and, Bool.false_and, Bool.and_true, Bool.and_false, Bool.true_or, Bool.false_or, Bool.or_true, Bool.or_false]); (first | (guard_hyp hTw : true = true; clear hTw) | (guard_hyp hTw : false = false; clear hTw) | (revert hTw; intro _))))
                | ((with_reducible refine two_intro ?_ ?_) <;> intro hTw <;> first | (exact Bool.noConfusion hTw) | ((first | (guard_hyp hTw : true = true; clear hTw) | (guard_hyp hTw : false = false; clear hTw) | (revert hTw; intro _))))
                | ((with_reducible refine And.intro ?_ ?_); (focus (first | omega | rfl | decide | grind)))
                | (with_reducible refine aw_block ?_)
                | (with_reducible refine aw_scope ?_)
                | ((first
                    | ((with_reducible refine aw_regionA T_ok ?_ ?_); (focus kernel_rfl))
                    | ((with_reducible refine aw_drawnA T_ok ?_ ?_ ?_ ?_); (focus kernel_rfl); (focus kernel_rfl); (focus (decide +kernel)))
                    | ((with_reducible refine aw_drawnF T_ok ?_ ?_ ?_ ?_); (focus kernel_rfl); (focus kernel_rfl); (focus (decide +kernel)))
                    | ((with_reducible refine callK_fz (hI) rfl ?_ ?_ ?_); (focus (repeat' (first | (exact FzA.nil) | (exact FzL.nil) | (exact FzLL.nil) | (exact FzLL_dV _) | (exact Fz.d rfl) | (refine FzA.one ?_ ?_) | (refine FzA.agg ?_ ?_) | (refine FzL.cons ?_ ?_) | (refine FzLL.cons ?_ ?_) | (exact hstk) | (refine Fz.fn ?_ (by kernel_rfl) (hstk)) | (refine Fz.fc (by kernel_rfl) (hstk)) | (refine Fz.pt rfl ?_) | (refine Fz.mp rfl ?_ ?_ ?_) | (refine Fz.row rfl ?_) | (refine Fz.ag ?_))); done); (focus kernel_rfl))
                    | ((with_reducible refine callI_fz (hI) rfl ?_ ?_ ?_ ?_); (focus (repeat' (first | (exact FzA.nil) | (exact FzL.nil) | (exact FzLL.nil) | (exact FzLL_dV _) | (exact Fz.d rfl) | (refine FzA.one ?_ ?_) | (refine FzA.agg ?_ ?_) | (refine FzL.cons ?_ ?_) | (refine FzLL.cons ?_ ?_) | (exact hstk) | (refine Fz.fn ?_ (by kernel_rfl) (hstk)) | (refine Fz.fc (by kernel_rfl) (hstk)) | (refine Fz.pt rfl ?_) | (refine Fz.mp rfl ?_ ?_ ?_) | (refine Fz.row rfl ?_) | (refine Fz.ag ?_))); done); (focus kernel_rfl); (focus kernel_rfl))
                    | (with_reducible refine aw_label ?_)
                    | ((with_reducible refine aw_rfM ?_ ?_); (focus kernel_rfl))
                    | (with_reducible refine aw_skip ?_)
                    | (with_reducible refine aw_exit ?_)
                    | ((with_reducible refine aw_condM ?_ ?_); (focus kernel_rfl))
                    | (with_reducible refine aw_ret ?_)
                  ); simp only [↓avP, avQ, if_true, if_false, forall_const, beq_self_eq_true, eq_self, ne_eq, implies_true, reduceIte, Nat.reduceEqDiff, Nat.reduceAdd, Nat.reduceSub, Int.reduceToNat, Nat.reduceLeDiff, Nat.reduceLT, reduceCtorEq, Int.reduceEq, retQ, retL, resV, RetV, RetOk, SubL, intD_B, lotD_B, flowD_B, snocI, snocL, ty_3, ty_27, ty_4, ty_24, ty_43, ty_22, ty_33, ty_65, ty_47, issD_get, hd, hsb, ht1]; try simp (disch := omega) only [av_w, av_t1, av_tp, Int.toNat_natCast]))
              refine ⟨k + 1, by omega, by dsimp only; omega, wk_of [(1, some 1), (2, some 2), (4, some 7)] rfl rfl ?_ ?_⟩
              · simp only [wkT, wkB, wkB1, subV, subVs, subD, subB, lkN_n, lkN_c, lkT_n, lkT_c, lkB_n, lkB_c, if_true, if_false, reduceIte, Nat.reduceEqDiff, true_and, and_true, and_self, inT, ofA]
                (repeat' (first | exact trivial | rfl | exact rfl | exact subVs_d _ _ | exact subVs_dm _ _ | exact subD_refl _ | refine And.intro ?_ ?_))
              · simp only [wkT, wkB, wkB1, subV, subVs, subD, subB, lkN_n, lkN_c, lkT_n, lkT_c, lkB_n, lkB_c, if_true, if_false, reduceIte, Nat.reduceEqDiff, true_and, and_true, and_self, inT, ofA]
                rw [hes]
                (repeat' (first | (simp; done) | exact trivial | rfl | exact rfl | exact subVs_d _ _ | exact subVs_dm _ _ | exact subD_refl _ | refine And.intro ?_ ?_))
          · obtain rfl : k = f.lots.length := by omega
            have hd := ged (Nat.le_refl f.lots.length)
            repeat' (first
              | (with_reducible refine aw_seq ?_)
              | ((with_reducible refine twoG_intro ?_ ?_) <;> intro hTw <;> first | (exact Bool.noConfusion hTw) | ((try simp only [hTw, Bool.not_true, Bool.not_false, Bool.true_and, Bool.false_and, Bool.and_true, Bool.and_false, Bool.true_or, Bool.false_or, Bool.or_true, Bool.or_false]); (first | (guard_hyp hTw : true = true; clear hTw) | (guard_hyp hTw : false = false; clear hTw) | (revert hTw; intro _))))
              | ((with_reducible refine two_intro ?_ ?_) <;> intro hTw <;> first | (exact Bool.noConfusion hTw) | ((first | (guard_hyp hTw : true = true; clear hTw) | (guard_hyp hTw : false = false; clear hTw) | (revert hTw; intro _))))
              | ((with_reducible refine And.intro ?_ ?_); (focus (first | omega | rfl | decide | grind)))
              | (with_reducible refine aw_block ?_)
              | (with_reducible refine aw_scope ?_)
              | ((first
                  | ((with_reducible refine aw_regionA T_ok ?_ ?_); (focus kernel_rfl))
                  | ((with_reducible refine aw_drawnA T_ok ?_ ?_ ?_ ?_); (focus kernel_rfl); (focus kernel_rfl); (focus (decide +kernel)))
                  | ((with_reducible refine aw_drawnF T_ok ?_ ?_ ?_ ?_); (focus kernel_rfl); (focus kernel_rfl); (focus (decide +kernel)))
                  | (with_reducible refine aw_label ?_)
                  | ((with_reducible refine aw_rfM ?_ ?_); (focus kernel_rfl))
                  | (with_reducible refine aw_skip ?_)
                  | (with_reducible refine aw_exit ?_)
                  | ((with_reducible refine aw_condM ?_ ?_); (focus kernel_rfl))
                  | (with_reducible refine aw_ret ?_)
                ); simp only [↓avP, avQ, if_true, if_false, forall_const, beq_self_eq_true, eq_self, ne_eq, implies_true, reduceIte, Nat.reduceEqDiff, Nat.reduceAdd, Nat.reduceSub, Int.reduceToNat, Nat.reduceLeDiff, Nat.reduceLT, reduceCtorEq, Int.reduceEq, retQ, retL, resV, RetV, RetOk, SubL, intD_B, lotD_B, flowD_B, snocI, snocL, ty_3, ty_27, ty_4, ty_24, ty_43, ty_22, ty_33, ty_65, ty_47, issD_get, hd]; try simp (disch := omega) only [av_w, av_t1, av_tp, Int.toNat_natCast]))
            rw [viewR, he, if_pos rfl]
            refine ⟨Sub.aggL ⟨SubD.refl _, SubD.sl ?_, trivial⟩, Sub.refl _⟩
            rw [viewEs, viewAt, List.map_map]
            exact SubEs.map _ _ _ fun k _ => viewE_sub f lines coal k
end Go.Proofs.Ytfndjciojljkfaa

namespace Go.Proofs.Ytfndjciojljkfaa
set_option linter.unusedSimpArgs false
set_option linter.unusedVariables false
open Go.RowKit
set_option maxRecDepth 100000
set_option maxHeartbeats 4000000
theorem fends_spec (f : FlowP) (hf : OkF f) : Spec Try.prog 18 [.agg (flowD f)] (.rt [aIs (endsR f), aI (checkF f)]) := by
  refine spec_of T_ok Try.func18 (by dsimp only [Try.f18]) rfl rfl (by simp) fun w F => ?_
  have hC := fcheck_spec f hf
  by_cases hc : checkF f = 0
  rotate_left
  · have hd : (checkF f != 0) = true := by simpa using hc
    repeat' (first
      | (with_reducible refine aw_seq ?_)
      | ((with_reducible refine twoG_intro ?_ ?_) <;> intro hTw <;> first | (exact Bool.noConfusion hTw) | ((try simp only [hTw, Bool.not_true, Bool.not_false, Bool.true_and, Bool.false_and, Bool.and_true, Bool.and_false, Bool.true_or, Bool.false_or, Bool.or_true, Bool.or_false]); (first | (guard_hyp hTw : true = true; clear hTw) | (guard_hyp hTw : false = false; clear hTw) | (revert hTw; intro _))))
      | ((with_reducible refine two_intro ?_ ?_) <;> intro hTw <;> first | (exact Bool.noConfusion hTw) | ((first | (guard_hyp hTw : true = true; clear hTw) | (guard_hyp hTw : false = false; clear hTw) | (revert hTw; intro _))))
      | ((with_reducible refine And.intro ?_ ?_); (focus (first | exact keyOk_int_ | omega | rfl | decide | grind)))
      | (with_reducible refine aw_block ?_)
      | (with_reducible refine aw_scope ?_)
      | ((first
          | ((with_reducible refine aw_regionA T_ok ?_ ?_); (focus kernel_rfl))
          | ((with_reducible refine aw_drawnA T_ok ?_ ?_ ?_ ?_); (focus kernel_rfl); (focus kernel_rfl); (focus (decide +kernel)))
          | ((with_reducible refine aw_drawnF T_ok ?_ ?_ ?_ ?_); (focus kernel_rfl); (focus kernel_rfl); (focus (decide +kernel)))
          | ((with_reducible refine callK_intro (hC) (by with_unfolding_all rfl) ?_ ?_); (focus kernel_rfl))
          | ((with_reducible refine callI_spec (hC) (by with_unfolding_all rfl) ?_ ?_ ?_); (focus kernel_rfl); (focus kernel_rfl))
          | (with_reducible refine aw_label ?_)
          | ((with_reducible refine aw_rfM ?_ ?_); (focus kernel_rfl))
          | (with_reducible refine aw_skip ?_)
          | (with_reducible refine aw_exit ?_)
          | ((with_reducible refine aw_condM ?_ ?_); (focus kernel_rfl))
          | (with_reducible refine aw_ret ?_)
        ); simp only [↓avP, avQ, if_true, if_false, forall_const, beq_self_eq_true, eq_self, ne_eq, implies_true, reduceIte, Nat.reduceEqDiff, Nat.reduceAdd, Nat.reduceSub, Int.reduceToNat, Nat.reduceLeDiff, Nat.reduceLT, reduceCtorEq, Int.reduceEq, retQ, retL, resV, RetV, RetOk, SubL, intD_B, lotD_B, flowD_B, snocI, snocL, ty_3, ty_27, ty_4, ty_24, ty_43, ty_22, ty_39, lkM_bool, upM_bool, boolV, boolV_getD, hd]; try simp (disch := omega) only [av_w, av_t1, av_tp, Int.toNat_natCast]))
    rw [endsR, if_neg hc]
    exact ⟨Sub.nil _ _, Sub.refl _⟩
  rw [hc] at hC ⊢
  obtain ⟨z1, z2, z3, z4, z5⟩ := checkF_zero hc
  have hs := checkF_small hc
  have hfl := hf.l
  obtain ⟨N, hN⟩ : ∃ N : Nat, befF f f.lots.length = N := ⟨(befF f f.lots.length).toNat, by have := (befF_mono (Nat.le_refl f.lots.length)).1; omega⟩
  have hNe : endsF f = endAt f N := by rw [endsF, hN]; rfl
  repeat' (first
    | (with_reducible refine aw_seq ?_)
    | ((with_reducible refine twoG_intro ?_ ?_) <;> intro hTw <;> first | (exact Bool.noConfusion hTw) | ((try simp only [hTw, Bool.not_true, Bool.not_false, Bool.true_and, Bool.false_and, Bool.and_true, Bool.and_false, Bool.true_or, Bool.false_or, Bool.or_true, Bool.or_false]); (first | (guard_hyp hTw : true = true; clear hTw) | (guard_hyp hTw : false = false; clear hTw) | (revert hTw; intro _))))
    | ((with_reducible refine two_intro ?_ ?_) <;> intro hTw <;> first | (exact Bool.noConfusion hTw) | ((first | (guard_hyp hTw : true = true; clear hTw) | (guard_hyp hTw : false = false; clear hTw) | (revert hTw; intro _))))
    | ((with_reducible refine And.intro ?_ ?_); (focus (first | exact keyOk_int_ | omega | rfl | decide | grind)))
    | (with_reducible refine aw_block ?_)
    | (with_reducible refine aw_scope ?_)
    | ((first
        | ((with_reducible refine aw_regionA T_ok ?_ ?_); (focus kernel_rfl))
        | ((with_reducible refine aw_drawnA T_ok ?_ ?_ ?_ ?_); (focus kernel_rfl); (focus kernel_rfl); (focus (decide +kernel)))
        | ((with_reducible refine aw_drawnF T_ok ?_ ?_ ?_ ?_); (focus kernel_rfl); (focus kernel_rfl); (focus (decide +kernel)))
        | ((with_reducible refine callK_intro (hC) (by with_unfolding_all rfl) ?_ ?_); (focus kernel_rfl))
        | ((with_reducible refine callI_spec (hC) (by with_unfolding_all rfl) ?_ ?_ ?_); (focus kernel_rfl); (focus kernel_rfl))
        | ((with_reducible apply callI_in T_ok Try.func47); (focus (dsimp only [Try.f47])); (focus rfl); (focus rfl); (focus kernel_rfl); (focus exact of_decide_eq_true (by kernel_rfl)); (focus kernel_rfl); (focus kernel_rfl); intro _)
        | ((with_reducible apply rfI_in Try.func71); (focus (dsimp only [Try.f71])); (focus (dsimp only [Base.inn, Base.inr])); (focus rfl); (focus rfl); (focus kernel_rfl); (focus exact of_decide_eq_true (by kernel_rfl)); (focus kernel_rfl); intro aL L hLp hLa hLb hLt)
        | (with_reducible refine aw_label ?_)
        | ((with_reducible refine aw_rfM ?_ ?_); (focus kernel_rfl))
        | (with_reducible refine aw_skip ?_)
        | (with_reducible refine aw_exit ?_)
        | ((with_reducible refine aw_condM ?_ ?_); (focus kernel_rfl))
        | (with_reducible refine aw_ret ?_)
      ); simp only [↓avP, avQ, if_true, if_false, forall_const, beq_self_eq_true, eq_self, ne_eq, implies_true, reduceIte, Nat.reduceEqDiff, Nat.reduceAdd, Nat.reduceSub, Int.reduceToNat, Nat.reduceLeDiff, Nat.reduceLT, reduceCtorEq, Int.reduceEq, retQ, retL, resV, RetV, RetOk, SubL, intD_B, lotD_B, flowD_B, snocI, snocL, ty_3, ty_27, ty_4, ty_24, ty_43, ty_22, ty_39, lkM_bool, upM_bool, boolV, boolV_getD]; try simp (disch := omega) only [av_w, av_t1, av_tp, Int.toNat_natCast]))
  refine aw_loopI (fun k : Nat => ⟨[(0, .yl 3), (1, .ptr 2 0), (53, .ptr 1 0), (55, vI 0), (3, .mp 4), (4, vI (befF f k)), (14, .d (.sl 3 (lotD default) (f.lots.map lotD))), (15, vI f.lots.length), (16, vI k)],
    [(4, .map .i 3 (.bool false) (boolV false) (mpV boolV (metM (goneF f k)))), (3, .loop L .ready none), (2, .cells 24 (dV (flowD f))), (1, .cells 27 [.d (.c (.slice none 0 0))]), (0, .cells 24 (dV (flowD f)))], 5⟩)
    (fun k => k ≤ f.lots.length) (fun k => f.lots.length - k) 0 (Nat.zero_le _) (wk_of [(0, some 0), (1, some 1), (2, some 2), (3, some 3), (4, some 4)] rfl rfl ?_ ?_) ?_
  · simp only [wkT, wkB, wkB1, subV, subVs, subD, subB, lkN_n, lkN_c, lkT_n, lkT_c, lkB_n, lkB_c, if_true, if_false, reduceIte, Nat.reduceEqDiff, true_and, and_true, and_self, inT, ofA]
    (repeat' (first | ((exact congrArg (fun n => D.c (Value.int IntKind.i64 n)) (show f.senders = befF f 0 by simp [befF]))) | exact trivial | rfl | exact rfl | exact subVs_d _ _ | exact subVs_dm _ _ | exact subD_refl _ | refine And.intro ?_ ?_))
  · simp only [wkT, wkB, wkB1, subV, subVs, subD, subB, lkN_n, lkN_c, lkT_n, lkT_c, lkB_n, lkB_c, if_true, if_false, reduceIte, Nat.reduceEqDiff, true_and, and_true, and_self, inT, ofA]
    (repeat' (first | exact trivial | rfl | exact rfl | exact subVs_d _ _ | exact subVs_dm _ _ | exact subD_refl _ | refine And.intro ?_ ?_))
  intro k hk
  have hbb := befF_mono (f := f) (k := k) (by omega)
  rcases Nat.lt_or_ge k f.lots.length with hlt | hge
  · have hd := ltd hlt
    have hb1 := befF_succ hlt
    have hg1 := goneF_succ hlt
    have hok := hf.at k
    have hbb2 := befF_mono (f := f) (k := k + 1) (by omega)
    obtain ⟨x, hx⟩ : ∃ x, x = f.lots.getD k default := ⟨_, rfl⟩
    rw [← hx] at hb1 hg1 hok
    have hli := hok.li
    repeat' (first
      | (with_reducible refine aw_seq ?_)
      | ((with_reducible refine twoG_intro ?_ ?_) <;> intro hTw <;> first | (exact Bool.noConfusion hTw) | ((try simp only [hTw, Bool.not_true, Bool.not_false, Bool.true_and, Bool.false_and, Bool.and_true, Bool.and_false, Bool.true_or, Bool.false_or, Bool.or_true, Bool.or_false]); (first | (guard_hyp hTw : true = true; clear hTw) | (guard_hyp hTw : false = false; clear hTw) | (revert hTw; intro _))))
      | ((with_reducible refine two_intro ?_ ?_) <;> intro hTw <;> first | (exact Bool.noConfusion hTw) | ((first | (guard_hyp hTw : true = true; clear hTw) | (guard_hyp hTw : false = false; clear hTw) | (revert hTw; intro _))))
      | ((with_reducible refine And.intro ?_ ?_); (focus (first | exact keyOk_int_ | omega | rfl | decide | grind)))
      | (with_reducible refine aw_block ?_)
      | (with_reducible refine aw_scope ?_)
      | ((first
          | ((with_reducible refine aw_regionA T_ok ?_ ?_); (focus kernel_rfl))
          | ((with_reducible refine aw_drawnA T_ok ?_ ?_ ?_ ?_); (focus kernel_rfl); (focus kernel_rfl); (focus (decide +kernel)))
          | ((with_reducible refine aw_drawnF T_ok ?_ ?_ ?_ ?_); (focus kernel_rfl); (focus kernel_rfl); (focus (decide +kernel)))
          | (with_reducible refine aw_label ?_)
          | ((with_reducible refine aw_rfM ?_ ?_); (focus kernel_rfl))
          | (with_reducible refine aw_skip ?_)
          | (with_reducible refine aw_exit ?_)
          | ((with_reducible refine aw_condM ?_ ?_); (focus kernel_rfl))
          | (with_reducible refine aw_ret ?_)
        ); simp only [↓avP, avQ, if_true, if_false, forall_const, beq_self_eq_true, eq_self, ne_eq, implies_true, reduceIte, Nat.reduceEqDiff, Nat.reduceAdd, Nat.reduceSub, Int.reduceToNat, Nat.reduceLeDiff, Nat.reduceLT, reduceCtorEq, Int.reduceEq, retQ, retL, resV, RetV, RetOk, SubL, intD_B, lotD_B, flowD_B, snocI, snocL, ty_3, ty_27, ty_4, ty_24, ty_43, ty_22, ty_39, lkM_bool, upM_bool, boolV, boolV_getD, hd, ← hx]; try simp (disch := omega) only [av_w, av_t1, av_tp, Int.toNat_natCast]))
    refine aw_loopI (fun j : Nat => ⟨[(0, .yl 3), (1, .ptr 2 0), (53, .ptr 1 0), (55, vI 0), (3, .mp 4), (4, vI (befF f (k + 1))), (14, .d (.sl 3 (lotD default) (f.lots.map lotD))), (15, vI f.lots.length), (16, vI k), (26, .d (.sl 1 (intD 0) (x.inn.map intD))), (27, vI x.inn.length), (28, vI j)],
      [(4, .map .i 3 (.bool false) (boolV false) (mpV boolV (metM (goneF f k ++ x.inn.take j)))), (3, .loop L .ready none), (2, .cells 24 (dV (flowD f))), (1, .cells 27 [.d (.c (.slice none 0 0))]), (0, .cells 24 (dV (flowD f)))], 5⟩)
      (fun j => j ≤ x.inn.length) (fun j => x.inn.length - j) 0 (Nat.zero_le _) (wk_of [(0, some 0), (1, some 1), (2, some 2), (3, some 3), (4, some 4)] rfl rfl ?_ ?_) ?_
    · simp only [wkT, wkB, wkB1, subV, subVs, subD, subB, lkN_n, lkN_c, lkT_n, lkT_c, lkB_n, lkB_c, if_true, if_false, reduceIte, Nat.reduceEqDiff, true_and, and_true, and_self, inT, ofA]
      rw [hb1]
      (repeat' (first | exact trivial | rfl | exact rfl | exact subVs_d _ _ | exact subVs_dm _ _ | exact subD_refl _ | refine And.intro ?_ ?_))
    · simp only [wkT, wkB, wkB1, subV, subVs, subD, subB, lkN_n, lkN_c, lkT_n, lkT_c, lkB_n, lkB_c, if_true, if_false, reduceIte, Nat.reduceEqDiff, true_and, and_true, and_self, inT, ofA]
      rw [List.take_zero, List.append_nil]
      (repeat' (first | ((exact subM_mpV (subV_bool _) rfl)) | exact trivial | rfl | exact rfl | exact subVs_d _ _ | exact subVs_dm _ _ | exact subD_refl _ | refine And.intro ?_ ?_))
    intro j hj
    rcases Nat.lt_or_ge j x.inn.length with hjlt | hjge
    · have hd2 := ltd hjlt
      have hxb := hok.inn _ (getD_mem hjlt)
      repeat' (first
        | (with_reducible refine aw_seq ?_)
        | ((with_reducible refine twoG_intro ?_ ?_) <;> intro hTw <;> first | (exact Bool.noConfusion hTw) | ((try simp only [hTw, Bool.not_true, Bool.not_false, Bool.true_and, Bool.false_and, Bool.and_true, Bool.and_false, Bool.true_or, Bool.false_or, Bool.or_true, Bool.or_false]); (first | (guard_hyp hTw : true = true; clear hTw) | (guard_hyp hTw : false = false; clear hTw) | (revert hTw; intro _))))
        | ((with_reducible refine two_intro ?_ ?_) <;> intro hTw <;> first | (exact Bool.noConfusion hTw) | ((first | (guard_hyp hTw : true = true; clear hTw) | (guard_hyp hTw : false = false; clear hTw) | (revert hTw; intro _))))
        | ((with_reducible refine And.intro ?_ ?_); (focus (first | exact keyOk_int_ | omega | rfl | decide | grind)))
        | (with_reducible refine aw_block ?_)
        | (with_reducible refine aw_scope ?_)
        | ((first
            | ((with_reducible refine aw_regionA T_ok ?_ ?_); (focus kernel_rfl))
            | ((with_reducible refine aw_drawnA T_ok ?_ ?_ ?_ ?_); (focus kernel_rfl); (focus kernel_rfl); (focus (decide +kernel)))
            | ((with_reducible refine aw_drawnF T_ok ?_ ?_ ?_ ?_); (focus kernel_rfl); (focus kernel_rfl); (focus (decide +kernel)))
            | (with_reducible refine aw_label ?_)
            | ((with_reducible refine aw_rfM ?_ ?_); (focus kernel_rfl))
            | (with_reducible refine aw_skip ?_)
            | (with_reducible refine aw_exit ?_)
            | ((with_reducible refine aw_condM ?_ ?_); (focus kernel_rfl))
            | (with_reducible refine aw_ret ?_)
          ); simp only [↓avP, avQ, if_true, if_false, forall_const, beq_self_eq_true, eq_self, ne_eq, implies_true, reduceIte, Nat.reduceEqDiff, Nat.reduceAdd, Nat.reduceSub, Int.reduceToNat, Nat.reduceLeDiff, Nat.reduceLT, reduceCtorEq, Int.reduceEq, retQ, retL, resV, RetV, RetOk, SubL, intD_B, lotD_B, flowD_B, snocI, snocL, ty_3, ty_27, ty_4, ty_24, ty_43, ty_22, ty_39, lkM_bool, upM_bool, boolV, boolV_getD, hd2]; try simp (disch := omega) only [av_w, av_t1, av_tp, Int.toNat_natCast]))
      have ht : goneF f k ++ x.inn.take (j + 1) = (goneF f k ++ x.inn.take j) ++ [x.inn.getD j 0] := by
        rw [List.take_succ_eq_append_getElem hjlt, List.append_assoc]
        congr 2
        simp [List.getD, hjlt]
      refine ⟨j + 1, by omega, by dsimp only; omega, wk_of [(0, some 0), (1, some 1), (2, some 2), (3, some 3), (4, some 4)] rfl rfl ?_ ?_⟩
      · simp only [wkT, wkB, wkB1, subV, subVs, subD, subB, lkN_n, lkN_c, lkT_n, lkT_c, lkB_n, lkB_c, if_true, if_false, reduceIte, Nat.reduceEqDiff, true_and, and_true, and_self, inT, ofA]
        (repeat' (first | exact trivial | rfl | exact rfl | exact subVs_d _ _ | exact subVs_dm _ _ | exact subD_refl _ | refine And.intro ?_ ?_))
      · simp only [wkT, wkB, wkB1, subV, subVs, subD, subB, lkN_n, lkN_c, lkT_n, lkT_c, lkB_n, lkB_c, if_true, if_false, reduceIte, Nat.reduceEqDiff, true_and, and_true, and_self, inT, ofA]
        rw [ht]
        (repeat' (first | ((exact subM_mpV (subV_bool _) (metM_succ _ _).symm)) | exact trivial | rfl | exact rfl | exact subVs_d _ _ | exact subVs_dm _ _ | exact subD_refl _ | refine And.intro ?_ ?_))
    · obtain rfl : j = x.inn.length := by omega
      have hd2 := ged (Nat.le_refl x.inn.length)
      repeat' (first
        | (with_reducible refine aw_seq ?_)
        | ((with_reducible refine twoG_intro ?_ ?_) <;> intro hTw <;> first | (exact Bool.noConfusion hTw) | ((try simp only [hTw, Bool.not_true, Bool.not_false, Bool.true_and, Bool.false_and, Bool.and_true, Bool.and_false, Bool.true_or, Bool.false_or, Bool.or_true, Bool.or_false]); (first | (guard_hyp hTw : true = true; clear hTw) | (guard_hyp hTw : false = false; clear hTw) | (revert hTw; intro _))))
        | ((with_reducible refine two_intro ?_ ?_) <;> intro hTw <;> first | (exact Bool.noConfusion hTw) | ((first | (guard_hyp hTw : true = true; clear hTw) | (guard_hyp hTw : false = false; clear hTw) | (revert hTw; intro _))))
        | ((with_reducible refine And.intro ?_ ?_); (focus (first | exact keyOk_int_ | omega | rfl | decide | grind)))
        | (with_reducible refine aw_block ?_)
        | (with_reducible refine aw_scope ?_)
        | ((first
            | ((with_reducible refine aw_regionA T_ok ?_ ?_); (focus kernel_rfl))
            | ((with_reducible refine aw_drawnA T_ok ?_ ?_ ?_ ?_); (focus kernel_rfl); (focus kernel_rfl); (focus (decide +kernel)))
            | ((with_reducible refine aw_drawnF T_ok ?_ ?_ ?_ ?_); (focus kernel_rfl); (focus kernel_rfl); (focus (decide +kernel)))
            | (with_reducible refine aw_label ?_)
            | ((with_reducible refine aw_rfM ?_ ?_); (focus kernel_rfl))
            | (with_reducible refine aw_skip ?_)
            | (with_reducible refine aw_exit ?_)
            | ((with_reducible refine aw_condM ?_ ?_); (focus kernel_rfl))
            | (with_reducible refine aw_ret ?_)
          ); simp only [↓avP, avQ, if_true, if_false, forall_const, beq_self_eq_true, eq_self, ne_eq, implies_true, reduceIte, Nat.reduceEqDiff, Nat.reduceAdd, Nat.reduceSub, Int.reduceToNat, Nat.reduceLeDiff, Nat.reduceLT, reduceCtorEq, Int.reduceEq, retQ, retL, resV, RetV, RetOk, SubL, intD_B, lotD_B, flowD_B, snocI, snocL, ty_3, ty_27, ty_4, ty_24, ty_43, ty_22, ty_39, lkM_bool, upM_bool, boolV, boolV_getD, hd2]; try simp (disch := omega) only [av_w, av_t1, av_tp, Int.toNat_natCast]))
      refine ⟨k + 1, by omega, by dsimp only; omega, wk_of [(0, some 0), (1, some 1), (2, some 2), (3, some 3), (4, some 4)] rfl rfl ?_ ?_⟩
      · simp only [wkT, wkB, wkB1, subV, subVs, subD, subB, lkN_n, lkN_c, lkT_n, lkT_c, lkB_n, lkB_c, if_true, if_false, reduceIte, Nat.reduceEqDiff, true_and, and_true, and_self, inT, ofA]
        (repeat' (first | exact trivial | rfl | exact rfl | exact subVs_d _ _ | exact subVs_dm _ _ | exact subD_refl _ | refine And.intro ?_ ?_))
      · simp only [wkT, wkB, wkB1, subV, subVs, subD, subB, lkN_n, lkN_c, lkT_n, lkT_c, lkB_n, lkB_c, if_true, if_false, reduceIte, Nat.reduceEqDiff, true_and, and_true, and_self, inT, ofA]
        rw [hg1, List.take_length]
        (repeat' (first | ((exact subM_mpV (subV_bool _) rfl)) | exact trivial | rfl | exact rfl | exact subVs_d _ _ | exact subVs_dm _ _ | exact subD_refl _ | refine And.intro ?_ ?_))
  obtain rfl : k = f.lots.length := by omega
  have hd := ged (Nat.le_refl f.lots.length)
  rw [hN]
  repeat' (first
    | (with_reducible refine aw_seq ?_)
    | ((with_reducible refine twoG_intro ?_ ?_) <;> intro hTw <;> first | (exact Bool.noConfusion hTw) | ((try simp only [hTw, Bool.not_true, Bool.not_false, Bool.true_and, Bool.false_and, Bool.and_true, Bool.and_false, Bool.true_or, Bool.false_or, Bool.or_true, Bool.or_false]); (first | (guard_hyp hTw : true = true; clear hTw) | (guard_hyp hTw : false = false; clear hTw) | (revert hTw; intro _))))
    | ((with_reducible refine two_intro ?_ ?_) <;> intro hTw <;> first | (exact Bool.noConfusion hTw) | ((first | (guard_hyp hTw : true = true; clear hTw) | (guard_hyp hTw : false = false; clear hTw) | (revert hTw; intro _))))
    | ((with_reducible refine And.intro ?_ ?_); (focus (first | exact keyOk_int_ | omega | rfl | decide | grind)))
    | (with_reducible refine aw_block ?_)
    | (with_reducible refine aw_scope ?_)
    | ((first
        | ((with_reducible refine aw_regionA T_ok ?_ ?_); (focus kernel_rfl))
        | ((with_reducible refine aw_drawnA T_ok ?_ ?_ ?_ ?_); (focus kernel_rfl); (focus kernel_rfl); (focus (decide +kernel)))
        | ((with_reducible refine aw_drawnF T_ok ?_ ?_ ?_ ?_); (focus kernel_rfl); (focus kernel_rfl); (focus (decide +kernel)))
        | (with_reducible refine aw_label ?_)
        | ((with_reducible refine aw_rfM ?_ ?_); (focus kernel_rfl))
        | (with_reducible refine aw_skip ?_)
        | (with_reducible refine aw_exit ?_)
        | ((with_reducible refine aw_condM ?_ ?_); (focus kernel_rfl))
        | (with_reducible refine aw_ret ?_)
      ); simp only [↓avP, avQ, if_true, if_false, forall_const, beq_self_eq_true, eq_self, ne_eq, implies_true, reduceIte, Nat.reduceEqDiff, Nat.reduceAdd, Nat.reduceSub, Int.reduceToNat, Nat.reduceLeDiff, Nat.reduceLT, reduceCtorEq, Int.reduceEq, retQ, retL, resV, RetV, RetOk, SubL, intD_B, lotD_B, flowD_B, snocI, snocL, ty_3, ty_27, ty_4, ty_24, ty_43, ty_22, ty_39, lkM_bool, upM_bool, boolV, boolV_getD, hd]; try simp (disch := omega) only [av_w, av_t1, av_tp, Int.toNat_natCast]))
  obtain ⟨G, hG⟩ : ∃ G, G = goneF f f.lots.length := ⟨_, rfl⟩
  rw [← hG]
  refine aw_loopI (fun j : Nat => ⟨[(0, .yl 3), (1, .ptr 2 0), (53, .ptr 1 0), (55, vI 0), (3, .mp 4), (36, vI N), (37, vI j)],
    [(4, .map .i 3 (.bool false) (boolV false) (mpV boolV (metM G))), (3, .loop L .ready none), (2, .cells 24 (dV (flowD f))), (1, .cells 27 [.ow 5 1 (intD 0) ((endAt f j).map intD)]), (5, .tok 3 1 (endAt f j).length), (0, .cells 24 (dV (flowD f)))], 6⟩)
    (fun j => j ≤ N) (fun j => N - j) 0 (Nat.zero_le _) (wk_of [(0, some 0), (1, some 1), (2, some 2), (3, some 3), (4, some 4), (5, none)] rfl rfl ?_ ?_) ?_
  · simp only [wkT, wkB, wkB1, subV, subVs, subD, subB, lkN_n, lkN_c, lkT_n, lkT_c, lkB_n, lkB_c, if_true, if_false, reduceIte, Nat.reduceEqDiff, true_and, and_true, and_self, inT, ofA]
    (repeat' (first | exact trivial | rfl | exact rfl | exact subVs_d _ _ | exact subVs_dm _ _ | exact subD_refl _ | refine And.intro ?_ ?_))
  · simp only [wkT, wkB, wkB1, subV, subVs, subD, subB, lkN_n, lkN_c, lkT_n, lkT_c, lkB_n, lkB_c, if_true, if_false, reduceIte, Nat.reduceEqDiff, true_and, and_true, and_self, inT, ofA]
    (repeat' (first | ((exact subM_mpV (subV_bool _) rfl)) | exact trivial | rfl | exact rfl | exact subVs_d _ _ | exact subVs_dm _ _ | exact subD_refl _ | refine And.intro ?_ ?_))
  intro j hj
  have hel := endAt_len f j
  rcases Nat.lt_or_ge j N with hjlt | hjge
  · have hd2 : decide ((j : Int) < (N : Int)) = true := decide_eq_true (by omega)
    have hes := endAt_succ f j
    rw [← hG] at hes
    by_cases hm : (j : Int) ∈ G
    · have hz : lkA [(j : Int)] (metM G) = some true := by rw [lkA_metM, if_pos hm]
      rw [decide_eq_true hm, if_pos rfl, List.append_nil] at hes
      repeat' (first
        | (with_reducible refine aw_seq ?_)
        | ((with_reducible refine twoG_intro ?_ ?_) <;> intro hTw <;> first | (exact Bool.noConfusion hTw) | ((try simp only [hTw, Bool.not_true, Bool.not_false, Bool.true_and, Bool.false_and, Bool.and_true, Bool.and_false, Bool.true_or, Bool.false_or, Bool.or_true, Bool.or_false]); (first | (guard_hyp hTw : true = true; clear hTw) | (guard_hyp hTw : false = false; clear hTw) | (revert hTw; intro _))))
        | ((with_reducible refine two_intro ?_ ?_) <;> intro hTw <;> first | (exact Bool.noConfusion hTw) | ((first | (guard_hyp hTw : true = true; clear hTw) | (guard_hyp hTw : false = false; clear hTw) | (revert hTw; intro _))))
        | ((with_reducible refine And.intro ?_ ?_); (focus (first | exact keyOk_int_ | omega | rfl | decide | grind)))
        | (with_reducible refine aw_block ?_)
        | (with_reducible refine aw_scope ?_)
        | ((first
            | ((with_reducible refine aw_regionA T_ok ?_ ?_); (focus kernel_rfl))
            | ((with_reducible refine aw_drawnA T_ok ?_ ?_ ?_ ?_); (focus kernel_rfl); (focus kernel_rfl); (focus (decide +kernel)))
            | ((with_reducible refine aw_drawnF T_ok ?_ ?_ ?_ ?_); (focus kernel_rfl); (focus kernel_rfl); (focus (decide +kernel)))
            | ((with_reducible refine callK_skip (.r1 (aB true)) (by with_unfolding_all rfl) ?_ ?_); (focus kernel_rfl))
            | ((with_reducible apply yieldI_in 0 0 (hL1 := hLp) (hL2 := hLa) (hL3 := hLb) (hsz := hLt.1)); (focus rfl); (focus rfl); (focus rfl); (focus kernel_rfl); (focus (dsimp only [Base.inn, Base.inr])); (focus exact (fun t ht => (hLt.2 t ht).trans (by rw [Nat.zero_add]; rfl))); (focus kernel_rfl); intro _)
            | (with_reducible refine aw_label ?_)
            | ((with_reducible refine aw_rfM ?_ ?_); (focus kernel_rfl))
            | (with_reducible refine aw_skip ?_)
            | (with_reducible refine aw_exit ?_)
            | ((with_reducible refine aw_condM ?_ ?_); (focus kernel_rfl))
            | (with_reducible refine aw_ret ?_)
          ); simp only [↓avP, avQ, if_true, if_false, forall_const, beq_self_eq_true, eq_self, ne_eq, implies_true, reduceIte, Nat.reduceEqDiff, Nat.reduceAdd, Nat.reduceSub, Int.reduceToNat, Nat.reduceLeDiff, Nat.reduceLT, reduceCtorEq, Int.reduceEq, retQ, retL, resV, RetV, RetOk, SubL, intD_B, lotD_B, flowD_B, snocI, snocL, ty_3, ty_27, ty_4, ty_24, ty_43, ty_22, ty_39, lkM_bool, upM_bool, boolV, boolV_getD, hd2, hz]; try simp (disch := omega) only [av_w, av_t1, av_tp, Int.toNat_natCast]))
      refine ⟨j + 1, by omega, by dsimp only; omega, wk_of [(0, some 0), (1, some 1), (2, some 2), (3, some 3), (4, some 4), (5, some 5)] rfl rfl ?_ ?_⟩
      · simp only [wkT, wkB, wkB1, subV, subVs, subD, subB, lkN_n, lkN_c, lkT_n, lkT_c, lkB_n, lkB_c, if_true, if_false, reduceIte, Nat.reduceEqDiff, true_and, and_true, and_self, inT, ofA]
        (repeat' (first | exact trivial | rfl | exact rfl | exact subVs_d _ _ | exact subVs_dm _ _ | exact subD_refl _ | refine And.intro ?_ ?_))
      · simp only [wkT, wkB, wkB1, subV, subVs, subD, subB, lkN_n, lkN_c, lkT_n, lkT_c, lkB_n, lkB_c, if_true, if_false, reduceIte, Nat.reduceEqDiff, true_and, and_true, and_self, inT, ofA]
        rw [hes]
        (repeat' (first | ((exact subM_mpV (subV_bool _) rfl)) | exact trivial | rfl | exact rfl | exact subVs_d _ _ | exact subVs_dm _ _ | exact subD_refl _ | refine And.intro ?_ ?_))
    · have hz : lkA [(j : Int)] (metM G) = none := by rw [lkA_metM, if_neg hm]
      rw [decide_eq_false hm, if_neg (by simp)] at hes
      repeat' (first
        | (with_reducible refine aw_seq ?_)
        | ((with_reducible refine twoG_intro ?_ ?_) <;> intro hTw <;> first | (exact Bool.noConfusion hTw) | ((try simp only [hTw, Bool.not_true, Bool.not_false, Bool.true_and, Bool.false_and, Bool.and_true, Bool.and_false, Bool.true_or, Bool.false_or, Bool.or_true, Bool.or_false]); (first | (guard_hyp hTw : true = true; clear hTw) | (guard_hyp hTw : false = false; clear hTw) | (revert hTw; intro _))))
        | ((with_reducible refine two_intro ?_ ?_) <;> intro hTw <;> first | (exact Bool.noConfusion hTw) | ((first | (guard_hyp hTw : true = true; clear hTw) | (guard_hyp hTw : false = false; clear hTw) | (revert hTw; intro _))))
        | ((with_reducible refine And.intro ?_ ?_); (focus (first | exact keyOk_int_ | omega | rfl | decide | grind)))
        | (with_reducible refine aw_block ?_)
        | (with_reducible refine aw_scope ?_)
        | ((first
            | ((with_reducible refine aw_regionA T_ok ?_ ?_); (focus kernel_rfl))
            | ((with_reducible refine aw_drawnA T_ok ?_ ?_ ?_ ?_); (focus kernel_rfl); (focus kernel_rfl); (focus (decide +kernel)))
            | ((with_reducible refine aw_drawnF T_ok ?_ ?_ ?_ ?_); (focus kernel_rfl); (focus kernel_rfl); (focus (decide +kernel)))
            | ((with_reducible apply yieldI_in 0 0 (hL1 := hLp) (hL2 := hLa) (hL3 := hLb) (hsz := hLt.1)); (focus rfl); (focus rfl); (focus rfl); (focus kernel_rfl); (focus (dsimp only [Base.inn, Base.inr])); (focus exact (fun t ht => (hLt.2 t ht).trans (by rw [Nat.zero_add]; rfl))); (focus kernel_rfl); intro _)
            | (with_reducible refine aw_label ?_)
            | ((with_reducible refine aw_rfM ?_ ?_); (focus kernel_rfl))
            | (with_reducible refine aw_skip ?_)
            | (with_reducible refine aw_exit ?_)
            | ((with_reducible refine aw_condM ?_ ?_); (focus kernel_rfl))
            | (with_reducible refine aw_ret ?_)
          ); simp only [↓avP, avQ, if_true, if_false, forall_const, beq_self_eq_true, eq_self, ne_eq, implies_true, reduceIte, Nat.reduceEqDiff, Nat.reduceAdd, Nat.reduceSub, Int.reduceToNat, Nat.reduceLeDiff, Nat.reduceLT, reduceCtorEq, Int.reduceEq, retQ, retL, resV, RetV, RetOk, SubL, intD_B, lotD_B, flowD_B, snocI, snocL, ty_3, ty_27, ty_4, ty_24, ty_43, ty_22, ty_39, lkM_bool, upM_bool, boolV, boolV_getD, hd2, hz]; try simp (disch := omega) only [av_w, av_t1, av_tp, Int.toNat_natCast]))
      refine ⟨j + 1, by omega, by dsimp only; omega, wk_of [(0, some 0), (1, some 1), (2, some 2), (3, some 3), (4, some 4), (5, some 7)] rfl rfl ?_ ?_⟩
      · simp only [wkT, wkB, wkB1, subV, subVs, subD, subB, lkN_n, lkN_c, lkT_n, lkT_c, lkB_n, lkB_c, if_true, if_false, reduceIte, Nat.reduceEqDiff, true_and, and_true, and_self, inT, ofA]
        (repeat' (first | exact trivial | rfl | exact rfl | exact subVs_d _ _ | exact subVs_dm _ _ | exact subD_refl _ | refine And.intro ?_ ?_))
      · simp only [wkT, wkB, wkB1, subV, subVs, subD, subB, lkN_n, lkN_c, lkT_n, lkT_c, lkB_n, lkB_c, if_true, if_false, reduceIte, Nat.reduceEqDiff, true_and, and_true, and_self, inT, ofA]
        rw [hes]
        (repeat' (first | ((exact subM_mpV (subV_bool _) rfl)) | ((simp)) | exact trivial | rfl | exact rfl | exact subVs_d _ _ | exact subVs_dm _ _ | exact subD_refl _ | refine And.intro ?_ ?_))
  · obtain rfl : j = N := by omega
    have hd2 : decide ((j : Int) < (j : Int)) = false := decide_eq_false (by omega)
    repeat' (first
      | (with_reducible refine aw_seq ?_)
      | ((with_reducible refine twoG_intro ?_ ?_) <;> intro hTw <;> first | (exact Bool.noConfusion hTw) | ((try simp only [hTw, Bool.not_true, Bool.not_false, Bool.true_and, Bool.false_and, Bool.and_true, Bool.and_false, Bool.true_or, Bool.false_or, Bool.or_true, Bool.or_false]); (first | (guard_hyp hTw : true = true; clear hTw) | (guard_hyp hTw : false = false; clear hTw) | (revert hTw; intro _))))
      | ((with_reducible refine two_intro ?_ ?_) <;> intro hTw <;> first | (exact Bool.noConfusion hTw) | ((first | (guard_hyp hTw : true = true; clear hTw) | (guard_hyp hTw : false = false; clear hTw) | (revert hTw; intro _))))
      | ((with_reducible refine And.intro ?_ ?_); (focus (first | exact keyOk_int_ | omega | rfl | decide | grind)))
      | (with_reducible refine aw_block ?_)
      | (with_reducible refine aw_scope ?_)
      | ((first
          | ((with_reducible refine aw_regionA T_ok ?_ ?_); (focus kernel_rfl))
          | ((with_reducible refine aw_drawnA T_ok ?_ ?_ ?_ ?_); (focus kernel_rfl); (focus kernel_rfl); (focus (decide +kernel)))
          | ((with_reducible refine aw_drawnF T_ok ?_ ?_ ?_ ?_); (focus kernel_rfl); (focus kernel_rfl); (focus (decide +kernel)))
          | (with_reducible refine aw_label ?_)
          | ((with_reducible refine aw_rfM ?_ ?_); (focus kernel_rfl))
          | (with_reducible refine aw_skip ?_)
          | (with_reducible refine aw_exit ?_)
          | ((with_reducible refine aw_condM ?_ ?_); (focus kernel_rfl))
          | (with_reducible refine aw_ret ?_)
        ); simp only [↓avP, avQ, if_true, if_false, forall_const, beq_self_eq_true, eq_self, ne_eq, implies_true, reduceIte, Nat.reduceEqDiff, Nat.reduceAdd, Nat.reduceSub, Int.reduceToNat, Nat.reduceLeDiff, Nat.reduceLT, reduceCtorEq, Int.reduceEq, retQ, retL, resV, RetV, RetOk, SubL, intD_B, lotD_B, flowD_B, snocI, snocL, ty_3, ty_27, ty_4, ty_24, ty_43, ty_22, ty_39, lkM_bool, upM_bool, boolV, boolV_getD, hd2]; try simp (disch := omega) only [av_w, av_t1, av_tp, Int.toNat_natCast]))
    rw [endsR, if_pos hc, hNe]
    exact ⟨Sub.refl _, Sub.refl _⟩
end Go.Proofs.Ytfndjciojljkfaa

namespace Go.Proofs.Ytfndjciojljkfaa
set_option linter.unusedSimpArgs false
set_option linter.unusedVariables false
open Go.RowKit
set_option maxRecDepth 100000
set_option maxHeartbeats 4000000
theorem subM_mI (ρ : Ren) {m m' : List (Int × Int)} (h : m = m') : subM ρ (mI m) (mI m') := subM_map (f := fun p : Int × Int => ([p.1], V.d (.c (.int .i64 p.2)))) (fun _ => rfl) h
theorem subVs_row (ρ : Ren) (es : List (List D)) : subVs ρ (es.map dV).flatten (es.map dV).flatten := by
  rw [flat_dV]; exact subVs_d _ _
theorem ofInv_entry {S : Nat} {g : Nat → Int} {M : List (Int × Int)} {ms : Array MapEntry} {clock : Nat} (h : OfInv S g M) (hm : MsOk ms clock M) {e : MapEntry} (he : e ∈ ms.toList) :
    ∃ (t : Int) (s : Nat), e.key = .int .i64 t ∧ e.val = .int .i64 s ∧ s < S ∧ g s = t := by
  have : (e.key, e.val) ∈ ms.toList.map (fun e => (e.key, e.val)) := List.mem_map_of_mem he
  rw [hm.kv] at this
  obtain ⟨⟨t, v⟩, hp, e1⟩ := List.mem_map.1 this
  simp only [Prod.mk.injEq] at e1
  obtain ⟨s, h1, h2, h3⟩ := (h.mem t v).1 hp
  exact ⟨t, s, e1.1.symm, by rw [← e1.2, h2], h1, h3⟩
theorem ofInv_some {S : Nat} {g : Nat → Int} {M : List (Int × Int)} {ms : Array MapEntry} {clock : Nat} (h : OfInv S g M) (hm : MsOk ms clock M) {s : Nat} (hs : s < S) :
    ∃ e ∈ ms.toList, e.key = .int .i64 (g s) ∧ e.val = .int .i64 s := by
  have hp := (h.mem (g s) s).2 ⟨s, hs, rfl, rfl⟩
  have : (Value.int .i64 (g s), Value.int .i64 (s : Int)) ∈ ms.toList.map (fun e => (e.key, e.val)) := by
    rw [hm.kv]; exact List.mem_map.2 ⟨_, hp, rfl⟩
  obtain ⟨e, he, e1⟩ := List.mem_map.1 this
  simp only [Prod.mk.injEq] at e1
  exact ⟨e, he, e1.1, e1.2⟩
theorem left_none {ms : Array MapEntry} {seen : Array Nat} (hz : (leftOf ms seen).size = 0) {e : MapEntry} (he : e ∈ ms.toList) : seen.contains e.born = true := by
  have : leftOf ms seen = #[] := Array.eq_empty_of_size_eq_zero hz
  unfold leftOf at this
  rw [Array.filter_eq_empty_iff] at this
  have := this e (by simpa using he)
  simpa using this
theorem born_inj {ms : Array MapEntry} {clock : Nat} (h : BornOk ms clock) {e e' : MapEntry} (he : e ∈ ms.toList) (he' : e' ∈ ms.toList) (hb : e.born = e'.born) : e = e' := by
  have := h.1
  rw [List.nodup_iff_pairwise_ne, List.pairwise_map] at this
  obtain ⟨i, hi, rfl⟩ := List.getElem_of_mem he
  obtain ⟨j, hj, rfl⟩ := List.getElem_of_mem he'
  rw [List.pairwise_iff_getElem] at this
  rcases Nat.lt_trichotomy i j with h1 | h1 | h1
  · exact (this i j hi hj h1 hb).elim
  · subst h1; rfl
  · exact (this j i hj hi h1 hb.symm).elim
theorem row_set (L : List Int) (s : Nat) (t : Int) : ((L.map intD).map dV).set s (V.d (.c (.int .i64 t)) :: List.drop 1 (((L.map intD).map dV).getD s (dV (intD 0)))) = ((L.set s t).map intD).map dV := by
  have h1 : ((L.map intD).map dV).getD s (dV (intD 0)) = dV (intD (L.getD s 0)) := by
    simp only [List.getD_eq_getElem?_getD, List.getElem?_map]
    cases L[s]? <;> rfl
  rw [h1, List.map_set, List.map_set]
  rfl
theorem fmap_spec (f : FlowP) (hf : OkF f) : Spec Try.prog 24 [.agg (flowD f)] (.rt [aIs (mapR f), aI (errM f)]) := by
  refine spec_of T_ok Try.func24 (by dsimp only [Try.f24]) rfl rfl (by simp) fun w F => ?_
  have hC := fcheck_spec f hf
  have hK := fknown_spec f hf.l
  have hfl := hf.l
  by_cases hc : checkF f = 0
  rotate_left
  · have hd : (checkF f != 0) = true := by simpa using hc
    repeat' (first
      | (with_reducible refine aw_seq ?_)
      | ((with_reducible refine twoG_intro ?_ ?_) <;> intro hTw <;> first | (exact Bool.noConfusion hTw) | ((try simp only [hTw, Bool.not_true, Bool.not_false, Bool.true_and, Bool.false_and, Bool.and_true, Bool.and_false, Bool.true_or, Bool.false_or, Bool.or_true, Bool.or_false]); (first | (guard_hyp hTw : true = true; clear hTw) | (guard_hyp hTw : false = false; clear hTw) | (revert hTw; intro _))))
      | ((with_reducible refine two_intro ?_ ?_) <;> intro hTw <;> first | (exact Bool.noConfusion hTw) | ((first | (guard_hyp hTw : true = true; clear hTw) | (guard_hyp hTw : false = false; clear hTw) | (revert hTw; intro _))))
      | ((with_reducible refine And.intro ?_ ?_); (focus (first | exact keyOk_int_ | omega | rfl | decide | grind)))
      | (with_reducible refine aw_block ?_)
      | (with_reducible refine aw_scope ?_)
      | ((first
          | ((with_reducible refine aw_regionA T_ok ?_ ?_); (focus kernel_rfl))
          | ((with_reducible refine aw_drawnA T_ok ?_ ?_ ?_ ?_); (focus kernel_rfl); (focus kernel_rfl); (focus (decide +kernel)))
          | ((with_reducible refine aw_drawnF T_ok ?_ ?_ ?_ ?_); (focus kernel_rfl); (focus kernel_rfl); (focus (decide +kernel)))
          | ((with_reducible refine callK_intro (hC) (by with_unfolding_all rfl) ?_ ?_); (focus kernel_rfl))
          | ((with_reducible refine callI_spec (hC) (by with_unfolding_all rfl) ?_ ?_ ?_); (focus kernel_rfl); (focus kernel_rfl))
          | (with_reducible refine aw_label ?_)
          | ((with_reducible refine aw_rfM ?_ ?_); (focus kernel_rfl))
          | (with_reducible refine aw_skip ?_)
          | (with_reducible refine aw_exit ?_)
          | ((with_reducible refine aw_condM ?_ ?_); (focus kernel_rfl))
          | (with_reducible refine aw_ret ?_)
        ); simp only [↓avP, avQ, if_true, if_false, forall_const, beq_self_eq_true, eq_self, ne_eq, implies_true, reduceIte, Nat.reduceEqDiff, Nat.reduceAdd, Nat.reduceSub, Int.reduceToNat, Nat.reduceLeDiff, Nat.reduceLT, reduceCtorEq, Int.reduceEq, retQ, retL, resV, RetV, RetOk, SubL, intD_B, lotD_B, flowD_B, snocI, snocL, ty_3, ty_27, ty_4, ty_24, ty_43, ty_22, ty_68, lkM_I, upM_I, dlM_I, intV_getD, intV, hd]; try simp (disch := omega) only [av_w, av_t1, av_tp, Int.toNat_natCast]))
    have : errM f = checkF f := by rw [errM, if_pos hc]
    rw [mapR, this, if_neg hc]
    exact ⟨Sub.nil _ _, Sub.refl _⟩
  rw [hc] at hC
  cases hk : knownF f with
  | false =>
    repeat' (first
      | (with_reducible refine aw_seq ?_)
      | ((with_reducible refine twoG_intro ?_ ?_) <;> intro hTw <;> first | (exact Bool.noConfusion hTw) | ((try simp only [hTw, Bool.not_true, Bool.not_false, Bool.true_and, Bool.false_and, Bool.and_true, Bool.and_false, Bool.true_or, Bool.false_or, Bool.or_true, Bool.or_false]); (first | (guard_hyp hTw : true = true; clear hTw) | (guard_hyp hTw : false = false; clear hTw) | (revert hTw; intro _))))
      | ((with_reducible refine two_intro ?_ ?_) <;> intro hTw <;> first | (exact Bool.noConfusion hTw) | ((first | (guard_hyp hTw : true = true; clear hTw) | (guard_hyp hTw : false = false; clear hTw) | (revert hTw; intro _))))
      | ((with_reducible refine And.intro ?_ ?_); (focus (first | exact keyOk_int_ | omega | rfl | decide | grind)))
      | (with_reducible refine aw_block ?_)
      | (with_reducible refine aw_scope ?_)
      | ((first
          | ((with_reducible refine aw_regionA T_ok ?_ ?_); (focus kernel_rfl))
          | ((with_reducible refine aw_drawnA T_ok ?_ ?_ ?_ ?_); (focus kernel_rfl); (focus kernel_rfl); (focus (decide +kernel)))
          | ((with_reducible refine aw_drawnF T_ok ?_ ?_ ?_ ?_); (focus kernel_rfl); (focus kernel_rfl); (focus (decide +kernel)))
          | ((with_reducible refine callK_intro (hC) (by with_unfolding_all rfl) ?_ ?_); (focus kernel_rfl))
          | ((with_reducible refine callI_spec (hC) (by with_unfolding_all rfl) ?_ ?_ ?_); (focus kernel_rfl); (focus kernel_rfl))
          | ((with_reducible refine callK_intro (hK) (by with_unfolding_all rfl) ?_ ?_); (focus kernel_rfl))
          | ((with_reducible refine callI_spec (hK) (by with_unfolding_all rfl) ?_ ?_ ?_); (focus kernel_rfl); (focus kernel_rfl))
          | (with_reducible refine aw_label ?_)
          | ((with_reducible refine aw_rfM ?_ ?_); (focus kernel_rfl))
          | (with_reducible refine aw_skip ?_)
          | (with_reducible refine aw_exit ?_)
          | ((with_reducible refine aw_condM ?_ ?_); (focus kernel_rfl))
          | (with_reducible refine aw_ret ?_)
        ); simp only [↓avP, avQ, if_true, if_false, forall_const, beq_self_eq_true, eq_self, ne_eq, implies_true, reduceIte, Nat.reduceEqDiff, Nat.reduceAdd, Nat.reduceSub, Int.reduceToNat, Nat.reduceLeDiff, Nat.reduceLT, reduceCtorEq, Int.reduceEq, retQ, retL, resV, RetV, RetOk, SubL, intD_B, lotD_B, flowD_B, snocI, snocL, ty_3, ty_27, ty_4, ty_24, ty_43, ty_22, ty_68, lkM_I, upM_I, dlM_I, intV_getD, intV, hk]; try simp (disch := omega) only [av_w, av_t1, av_tp, Int.toNat_natCast]))
    have : errM f = 1 := by rw [errM, if_neg (by simpa using hc), hk]; rfl
    rw [mapR, this, if_neg (by decide)]
    exact ⟨Sub.nil _ _, Sub.refl _⟩
  | true =>
    obtain ⟨z1, z2, z3, z4, z5⟩ := checkF_zero hc
    have hs := checkF_small hc
    obtain ⟨N, hN⟩ : ∃ N : Nat, f.senders = N := ⟨f.senders.toNat, by omega⟩
    have he : errM f = 0 := by rw [errM, if_neg (by simpa using hc), if_pos hk]
    have hR : mapR f = mapAt f N := by rw [mapR, if_pos he, hN]; rfl
    have hNl : N ≤ 64 := by omega
    repeat' (first
      | (with_reducible refine aw_seq ?_)
      | ((with_reducible refine twoG_intro ?_ ?_) <;> intro hTw <;> first | (exact Bool.noConfusion hTw) | ((try simp only [hTw, Bool.not_true, Bool.not_false, Bool.true_and, Bool.false_and, Bool.and_true, Bool.and_false, Bool.true_or, Bool.false_or, Bool.or_true, Bool.or_false]); (first | (guard_hyp hTw : true = true; clear hTw) | (guard_hyp hTw : false = false; clear hTw) | (revert hTw; intro _))))
      | ((with_reducible refine two_intro ?_ ?_) <;> intro hTw <;> first | (exact Bool.noConfusion hTw) | ((first | (guard_hyp hTw : true = true; clear hTw) | (guard_hyp hTw : false = false; clear hTw) | (revert hTw; intro _))))
      | ((with_reducible refine And.intro ?_ ?_); (focus (first | exact keyOk_int_ | omega | rfl | decide | grind)))
      | (with_reducible refine aw_block ?_)
      | (with_reducible refine aw_scope ?_)
      | ((first
          | ((with_reducible refine aw_regionA T_ok ?_ ?_); (focus kernel_rfl))
          | ((with_reducible refine aw_drawnA T_ok ?_ ?_ ?_ ?_); (focus kernel_rfl); (focus kernel_rfl); (focus (decide +kernel)))
          | ((with_reducible refine aw_drawnF T_ok ?_ ?_ ?_ ?_); (focus kernel_rfl); (focus kernel_rfl); (focus (decide +kernel)))
          | ((with_reducible refine callK_intro (hC) (by with_unfolding_all rfl) ?_ ?_); (focus kernel_rfl))
          | ((with_reducible refine callI_spec (hC) (by with_unfolding_all rfl) ?_ ?_ ?_); (focus kernel_rfl); (focus kernel_rfl))
          | ((with_reducible refine callK_intro (hK) (by with_unfolding_all rfl) ?_ ?_); (focus kernel_rfl))
          | ((with_reducible refine callI_spec (hK) (by with_unfolding_all rfl) ?_ ?_ ?_); (focus kernel_rfl); (focus kernel_rfl))
          | (with_reducible refine aw_label ?_)
          | ((with_reducible refine aw_rfM ?_ ?_); (focus kernel_rfl))
          | (with_reducible refine aw_skip ?_)
          | (with_reducible refine aw_exit ?_)
          | ((with_reducible refine aw_condM ?_ ?_); (focus kernel_rfl))
          | (with_reducible refine aw_ret ?_)
        ); simp only [↓avP, avQ, if_true, if_false, forall_const, beq_self_eq_true, eq_self, ne_eq, implies_true, reduceIte, Nat.reduceEqDiff, Nat.reduceAdd, Nat.reduceSub, Int.reduceToNat, Nat.reduceLeDiff, Nat.reduceLT, reduceCtorEq, Int.reduceEq, retQ, retL, resV, RetV, RetOk, SubL, intD_B, lotD_B, flowD_B, snocI, snocL, ty_3, ty_27, ty_4, ty_24, ty_43, ty_22, ty_68, lkM_I, upM_I, dlM_I, intV_getD, intV, hk]; try simp (disch := omega) only [av_w, av_t1, av_tp, Int.toNat_natCast]))
    refine aw_loopI (fun i : Nat => ⟨[(1, .ptr 0 0), (5, .mp 1), (25, vI f.senders), (26, vI i)],
      [(1, .map .i 3 (.int .i64 0) (.d (.c (.int .i64 0))) (mI (mId i))), (0, .cells 24 (dV (flowD f)))], 2⟩)
      (fun i => i ≤ N) (fun i => N - i) 0 (Nat.zero_le _) (wk_of [(0, some 0), (1, some 1)] rfl rfl ?_ ?_) ?_
    · simp only [wkT, wkB, wkB1, subV, subVs, subD, subB, lkN_n, lkN_c, lkT_n, lkT_c, lkB_n, lkB_c, if_true, if_false, reduceIte, Nat.reduceEqDiff, true_and, and_true, and_self, inT, ofA]
      (repeat' (first | exact trivial | rfl | exact rfl | exact subVs_d _ _ | exact subVs_dm _ _ | exact subD_refl _ | refine And.intro ?_ ?_))
    · simp only [wkT, wkB, wkB1, subV, subVs, subD, subB, lkN_n, lkN_c, lkT_n, lkT_c, lkB_n, lkB_c, if_true, if_false, reduceIte, Nat.reduceEqDiff, true_and, and_true, and_self, inT, ofA]
      (repeat' (first | ((exact ⟨rfl, rfl⟩)) | exact trivial | rfl | exact rfl | exact subVs_d _ _ | exact subVs_dm _ _ | exact subD_refl _ | refine And.intro ?_ ?_))
    intro i hi
    rcases Nat.lt_or_ge i N with hlt | hge
    · have hd : decide ((i : Int) < f.senders) = true := decide_eq_true (by omega)
      have hms := mId_succ i
      repeat' (first
        | (with_reducible refine aw_seq ?_)
        | ((with_reducible refine twoG_intro ?_ ?_) <;> intro hTw <;> first | (exact Bool.noConfusion hTw) | ((try simp only [hTw, Bool.not_true, Bool.not_false, Bool.true_and, Bool.false_and, Bool.and_true, Bool.and_false, Bool.true_or, Bool.false_or, Bool.or_true, Bool.or_false]); (first | (guard_hyp hTw : true = true; clear hTw) | (guard_hyp hTw : false = false; clear hTw) | (revert hTw; intro _))))
        | ((with_reducible refine two_intro ?_ ?_) <;> intro hTw <;> first | (exact Bool.noConfusion hTw) | ((first | (guard_hyp hTw : true = true; clear hTw) | (guard_hyp hTw : false = false; clear hTw) | (revert hTw; intro _))))
        | ((with_reducible refine And.intro ?_ ?_); (focus (first | exact keyOk_int_ | omega | rfl | decide | grind)))
        | (with_reducible refine aw_block ?_)
        | (with_reducible refine aw_scope ?_)
        | ((first
            | ((with_reducible refine aw_regionA T_ok ?_ ?_); (focus kernel_rfl))
            | ((with_reducible refine aw_drawnA T_ok ?_ ?_ ?_ ?_); (focus kernel_rfl); (focus kernel_rfl); (focus (decide +kernel)))
            | ((with_reducible refine aw_drawnF T_ok ?_ ?_ ?_ ?_); (focus kernel_rfl); (focus kernel_rfl); (focus (decide +kernel)))
            | (with_reducible refine aw_label ?_)
            | ((with_reducible refine aw_rfM ?_ ?_); (focus kernel_rfl))
            | (with_reducible refine aw_skip ?_)
            | (with_reducible refine aw_exit ?_)
            | ((with_reducible refine aw_condM ?_ ?_); (focus kernel_rfl))
            | (with_reducible refine aw_ret ?_)
          ); simp only [↓avP, avQ, if_true, if_false, forall_const, beq_self_eq_true, eq_self, ne_eq, implies_true, reduceIte, Nat.reduceEqDiff, Nat.reduceAdd, Nat.reduceSub, Int.reduceToNat, Nat.reduceLeDiff, Nat.reduceLT, reduceCtorEq, Int.reduceEq, retQ, retL, resV, RetV, RetOk, SubL, intD_B, lotD_B, flowD_B, snocI, snocL, ty_3, ty_27, ty_4, ty_24, ty_43, ty_22, ty_68, lkM_I, upM_I, dlM_I, intV_getD, intV, hd]; try simp (disch := omega) only [av_w, av_t1, av_tp, Int.toNat_natCast]))
      refine ⟨i + 1, by omega, by dsimp only; omega, wk_of [(0, some 0), (1, some 1)] rfl rfl ?_ ?_⟩
      · simp only [wkT, wkB, wkB1, subV, subVs, subD, subB, lkN_n, lkN_c, lkT_n, lkT_c, lkB_n, lkB_c, if_true, if_false, reduceIte, Nat.reduceEqDiff, true_and, and_true, and_self, inT, ofA]
        (repeat' (first | exact trivial | rfl | exact rfl | exact subVs_d _ _ | exact subVs_dm _ _ | exact subD_refl _ | refine And.intro ?_ ?_))
      · simp only [wkT, wkB, wkB1, subV, subVs, subD, subB, lkN_n, lkN_c, lkT_n, lkT_c, lkB_n, lkB_c, if_true, if_false, reduceIte, Nat.reduceEqDiff, true_and, and_true, and_self, inT, ofA]
        rw [hms]
        (repeat' (first | ((exact subM_mI _ rfl)) | exact trivial | rfl | exact rfl | exact subVs_d _ _ | exact subVs_dm _ _ | exact subD_refl _ | refine And.intro ?_ ?_))
    obtain rfl : i = N := by omega
    have hd : decide ((i : Int) < f.senders) = false := decide_eq_false (by omega)
    repeat' (first
      | (with_reducible refine aw_seq ?_)
      | ((with_reducible refine twoG_intro ?_ ?_) <;> intro hTw <;> first | (exact Bool.noConfusion hTw) | ((try simp only [hTw, Bool.not_true, Bool.not_false, Bool.true_and, Bool.false_and, Bool.and_true, Bool.and_false, Bool.true_or, Bool.false_or, Bool.or_true, Bool.or_false]); (first | (guard_hyp hTw : true = true; clear hTw) | (guard_hyp hTw : false = false; clear hTw) | (revert hTw; intro _))))
      | ((with_reducible refine two_intro ?_ ?_) <;> intro hTw <;> first | (exact Bool.noConfusion hTw) | ((first | (guard_hyp hTw : true = true; clear hTw) | (guard_hyp hTw : false = false; clear hTw) | (revert hTw; intro _))))
      | ((with_reducible refine And.intro ?_ ?_); (focus (first | exact keyOk_int_ | omega | rfl | decide | grind)))
      | (with_reducible refine aw_block ?_)
      | (with_reducible refine aw_scope ?_)
      | ((first
          | ((with_reducible refine aw_regionA T_ok ?_ ?_); (focus kernel_rfl))
          | ((with_reducible refine aw_drawnA T_ok ?_ ?_ ?_ ?_); (focus kernel_rfl); (focus kernel_rfl); (focus (decide +kernel)))
          | ((with_reducible refine aw_drawnF T_ok ?_ ?_ ?_ ?_); (focus kernel_rfl); (focus kernel_rfl); (focus (decide +kernel)))
          | ((with_reducible apply callI_in T_ok Try.func49); (focus (dsimp only [Try.f49])); (focus rfl); (focus rfl); (focus kernel_rfl); (focus exact of_decide_eq_true (by kernel_rfl)); (focus kernel_rfl); (focus kernel_rfl); intro _)
          | (with_reducible refine aw_label ?_)
          | ((with_reducible refine aw_rfM ?_ ?_); (focus kernel_rfl))
          | (with_reducible refine aw_skip ?_)
          | (with_reducible refine aw_exit ?_)
          | ((with_reducible refine aw_condM ?_ ?_); (focus kernel_rfl))
          | (with_reducible refine aw_ret ?_)
        ); simp only [↓avP, avQ, if_true, if_false, forall_const, beq_self_eq_true, eq_self, ne_eq, implies_true, reduceIte, Nat.reduceEqDiff, Nat.reduceAdd, Nat.reduceSub, Int.reduceToNat, Nat.reduceLeDiff, Nat.reduceLT, reduceCtorEq, Int.reduceEq, retQ, retL, resV, RetV, RetOk, SubL, intD_B, lotD_B, flowD_B, snocI, snocL, ty_3, ty_27, ty_4, ty_24, ty_43, ty_22, ty_68, lkM_I, upM_I, dlM_I, intV_getD, intV, hd]; try simp (disch := omega) only [av_w, av_t1, av_tp, Int.toNat_natCast]))
    refine aw_loopI (fun x : Nat × List (Int × Int) => ⟨[(1, .ptr 0 0), (5, .mp 1), (7, .fn 72 [.ptr 2 0]), (37, .d (.sl 3 (lotD default) (f.lots.map lotD))), (38, vI f.lots.length), (39, vI x.1)],
      [(2, .cells 3 [vI (befF f x.1)]), (1, .map .i 3 (.int .i64 0) (.d (.c (.int .i64 0))) (mI x.2)), (0, .cells 24 (dV (flowD f)))], 3⟩)
      (fun x => x.1 ≤ f.lots.length ∧ OfInv i (fun s => followK f x.1 s) x.2) (fun x => f.lots.length - x.1) (0, mId i) ⟨Nat.zero_le _, mId_inv i⟩ (wk_of [(0, some 0), (1, some 1), (2, some 2)] rfl rfl ?_ ?_) ?_
    · simp only [wkT, wkB, wkB1, subV, subVs, subD, subB, lkN_n, lkN_c, lkT_n, lkT_c, lkB_n, lkB_c, if_true, if_false, reduceIte, Nat.reduceEqDiff, true_and, and_true, and_self, inT, ofA]
      (repeat' (first | exact trivial | rfl | exact rfl | exact subVs_d _ _ | exact subVs_dm _ _ | exact subD_refl _ | refine And.intro ?_ ?_))
    · simp only [wkT, wkB, wkB1, subV, subVs, subD, subB, lkN_n, lkN_c, lkT_n, lkT_c, lkB_n, lkB_c, if_true, if_false, reduceIte, Nat.reduceEqDiff, true_and, and_true, and_self, inT, ofA]
      (repeat' (first | ((exact subM_mI _ rfl)) | ((exact congrArg (fun n => D.c (Value.int IntKind.i64 n)) (show f.senders = befF f 0 by simp [befF]))) | exact trivial | rfl | exact rfl | exact subVs_d _ _ | exact subVs_dm _ _ | exact subD_refl _ | refine And.intro ?_ ?_))
    rintro ⟨k, M⟩ ⟨hkl, hI⟩
    dsimp only at hkl hI ⊢
    have hbb := befF_mono (f := f) (k := k) (by omega)
    rcases Nat.lt_or_ge k f.lots.length with hlt | hge2
    · have hd2 := ltd hlt
      have hg := goodL_at hc hlt
      have hpl := hg.pl (knownF_at hk hlt)
      have hb1 := befF_succ hlt
      have hbb2 := befF_mono (f := f) (k := k + 1) (by omega)
      have hok := hf.at k
      have hps : ∀ {j : Nat} {m : List (Int × Int)}, j < (f.lots.getD k default).inn.length → OfInv i (posJ f k j) m → _ := fun {j m} hj h => posJ_step hc hk hN hlt hj h
      have hp0 : OfInv i (posJ f k 0) M := hI.congr fun s _ => (posJ_zero k s).symm
      have hpa : ∀ m, OfInv i (posJ f k (f.lots.getD k default).inn.length) m → OfInv i (fun s => followK f (k + 1) s) m := fun m h => h.congr fun s _ => posJ_all k s
      obtain ⟨x, hx⟩ : ∃ x, x = f.lots.getD k default := ⟨_, rfl⟩
      rw [← hx] at hb1 hok hg hpl hpa
      simp only [← hx] at hps
      have hli := hok.li
      repeat' (first
        | (with_reducible refine aw_seq ?_)
        | ((with_reducible refine twoG_intro ?_ ?_) <;> intro hTw <;> first | (exact Bool.noConfusion hTw) | ((try simp only [hTw, Bool.not_true, Bool.not_false, Bool.true_and, Bool.false_and, Bool.and_true, Bool.and_false, Bool.true_or, Bool.false_or, Bool.or_true, Bool.or_false]); (first | (guard_hyp hTw : true = true; clear hTw) | (guard_hyp hTw : false = false; clear hTw) | (revert hTw; intro _))))
        | ((with_reducible refine two_intro ?_ ?_) <;> intro hTw <;> first | (exact Bool.noConfusion hTw) | ((first | (guard_hyp hTw : true = true; clear hTw) | (guard_hyp hTw : false = false; clear hTw) | (revert hTw; intro _))))
        | ((with_reducible refine And.intro ?_ ?_); (focus (first | exact keyOk_int_ | omega | rfl | decide | grind)))
        | (with_reducible refine aw_block ?_)
        | (with_reducible refine aw_scope ?_)
        | ((first
            | ((with_reducible refine aw_regionA T_ok ?_ ?_); (focus kernel_rfl))
            | ((with_reducible refine aw_drawnA T_ok ?_ ?_ ?_ ?_); (focus kernel_rfl); (focus kernel_rfl); (focus (decide +kernel)))
            | ((with_reducible refine aw_drawnF T_ok ?_ ?_ ?_ ?_); (focus kernel_rfl); (focus kernel_rfl); (focus (decide +kernel)))
            | ((with_reducible apply callI_in T_ok Try.func72); (focus (dsimp only [Try.f72])); (focus rfl); (focus rfl); (focus kernel_rfl); (focus exact of_decide_eq_true (by kernel_rfl)); (focus kernel_rfl); (focus kernel_rfl); intro _)
            | (with_reducible refine aw_label ?_)
            | ((with_reducible refine aw_rfM ?_ ?_); (focus kernel_rfl))
            | (with_reducible refine aw_skip ?_)
            | (with_reducible refine aw_exit ?_)
            | ((with_reducible refine aw_condM ?_ ?_); (focus kernel_rfl))
            | (with_reducible refine aw_ret ?_)
          ); simp only [↓avP, avQ, if_true, if_false, forall_const, beq_self_eq_true, eq_self, ne_eq, implies_true, reduceIte, Nat.reduceEqDiff, Nat.reduceAdd, Nat.reduceSub, Int.reduceToNat, Nat.reduceLeDiff, Nat.reduceLT, reduceCtorEq, Int.reduceEq, retQ, retL, resV, RetV, RetOk, SubL, intD_B, lotD_B, flowD_B, snocI, snocL, ty_3, ty_27, ty_4, ty_24, ty_43, ty_22, ty_68, lkM_I, upM_I, dlM_I, intV_getD, intV, hd2, ← hx]; try simp (disch := omega) only [av_w, av_t1, av_tp, Int.toNat_natCast]))
      have hadd : befF f k + (x.inn.length : Int) - x.inn.length = befF f k := by omega
      refine aw_loopI (fun y : Nat × List (Int × Int) => ⟨[(1, .ptr 0 0), (5, .mp 1), (7, .fn 72 [.ptr 2 0]), (37, .d (.sl 3 (lotD default) (f.lots.map lotD))), (38, vI f.lots.length), (39, vI k), (9, .ptr 3 0), (10, vI (befF f k)), (49, .d (.sl 1 (intD 0) (x.inn.map intD))), (50, vI x.inn.length), (51, vI y.1)],
        [(3, .cells 43 (dV (lotD x))), (2, .cells 3 [vI (befF f (k + 1))]), (1, .map .i 3 (.int .i64 0) (.d (.c (.int .i64 0))) (mI y.2)), (0, .cells 24 (dV (flowD f)))], 4⟩)
        (fun y => y.1 ≤ x.inn.length ∧ OfInv i (posJ f k y.1) y.2) (fun y => x.inn.length - y.1) (0, M) ⟨Nat.zero_le _, hp0⟩ (wk_of [(0, some 0), (1, some 1), (2, some 2), (3, some 3)] rfl rfl ?_ ?_) ?_
      · simp only [wkT, wkB, wkB1, subV, subVs, subD, subB, lkN_n, lkN_c, lkT_n, lkT_c, lkB_n, lkB_c, if_true, if_false, reduceIte, Nat.reduceEqDiff, true_and, and_true, and_self, inT, ofA]
        (repeat' (first | ((exact congrArg (fun n => D.c (Value.int IntKind.i64 n)) hadd)) | exact trivial | rfl | exact rfl | exact subVs_d _ _ | exact subVs_dm _ _ | exact subD_refl _ | refine And.intro ?_ ?_))
      · simp only [wkT, wkB, wkB1, subV, subVs, subD, subB, lkN_n, lkN_c, lkT_n, lkT_c, lkB_n, lkB_c, if_true, if_false, reduceIte, Nat.reduceEqDiff, true_and, and_true, and_self, inT, ofA]
        (repeat' (first | ((exact subM_mI _ rfl)) | ((exact congrArg (fun n => D.c (Value.int IntKind.i64 n)) hb1.symm)) | exact trivial | rfl | exact rfl | exact subVs_d _ _ | exact subVs_dm _ _ | exact subD_refl _ | refine And.intro ?_ ?_))
      rintro ⟨j, m⟩ ⟨hjl, hJ⟩
      dsimp only at hjl hJ ⊢
      rcases Nat.lt_or_ge j x.inn.length with hjlt | hjge
      · have hd3 := ltd hjlt
        obtain ⟨s0, hs0, hlk, hJ'⟩ := hps hjlt hJ
        have hfr := hg.fr _ (getD_mem hjlt)
        have hpj := hpl.2.2 _ (getD_mem (show j < x.perm.length by rw [hpl.1]; exact hjlt))
        have hpn := hpl.1
        repeat' (first
          | (with_reducible refine aw_seq ?_)
          | ((with_reducible refine twoG_intro ?_ ?_) <;> intro hTw <;> first | (exact Bool.noConfusion hTw) | ((try simp only [hTw, Bool.not_true, Bool.not_false, Bool.true_and, Bool.false_and, Bool.and_true, Bool.and_false, Bool.true_or, Bool.false_or, Bool.or_true, Bool.or_false]); (first | (guard_hyp hTw : true = true; clear hTw) | (guard_hyp hTw : false = false; clear hTw) | (revert hTw; intro _))))
          | ((with_reducible refine two_intro ?_ ?_) <;> intro hTw <;> first | (exact Bool.noConfusion hTw) | ((first | (guard_hyp hTw : true = true; clear hTw) | (guard_hyp hTw : false = false; clear hTw) | (revert hTw; intro _))))
          | ((with_reducible refine And.intro ?_ ?_); (focus (first | exact keyOk_int_ | omega | rfl | decide | grind)))
          | (with_reducible refine aw_block ?_)
          | (with_reducible refine aw_scope ?_)
          | ((first
              | ((with_reducible refine aw_regionA T_ok ?_ ?_); (focus kernel_rfl))
              | ((with_reducible refine aw_drawnA T_ok ?_ ?_ ?_ ?_); (focus kernel_rfl); (focus kernel_rfl); (focus (decide +kernel)))
              | ((with_reducible refine aw_drawnF T_ok ?_ ?_ ?_ ?_); (focus kernel_rfl); (focus kernel_rfl); (focus (decide +kernel)))
              | (with_reducible refine aw_label ?_)
              | ((with_reducible refine aw_rfM ?_ ?_); (focus kernel_rfl))
              | (with_reducible refine aw_skip ?_)
              | (with_reducible refine aw_exit ?_)
              | ((with_reducible refine aw_condM ?_ ?_); (focus kernel_rfl))
              | (with_reducible refine aw_ret ?_)
            ); simp only [↓avP, avQ, if_true, if_false, forall_const, beq_self_eq_true, eq_self, ne_eq, implies_true, reduceIte, Nat.reduceEqDiff, Nat.reduceAdd, Nat.reduceSub, Int.reduceToNat, Nat.reduceLeDiff, Nat.reduceLT, reduceCtorEq, Int.reduceEq, retQ, retL, resV, RetV, RetOk, SubL, intD_B, lotD_B, flowD_B, snocI, snocL, ty_3, ty_27, ty_4, ty_24, ty_43, ty_22, ty_68, lkM_I, upM_I, dlM_I, intV_getD, intV, hd3, hlk]; try simp (disch := omega) only [av_w, av_t1, av_tp, Int.toNat_natCast]))
        refine ⟨(j + 1, _), ⟨by omega, hJ'⟩, by dsimp only; omega, wk_of [(0, some 0), (1, some 1), (2, some 2), (3, some 3)] rfl rfl ?_ ?_⟩
        · simp only [wkT, wkB, wkB1, subV, subVs, subD, subB, lkN_n, lkN_c, lkT_n, lkT_c, lkB_n, lkB_c, if_true, if_false, reduceIte, Nat.reduceEqDiff, true_and, and_true, and_self, inT, ofA]
          (repeat' (first | exact trivial | rfl | exact rfl | exact subVs_d _ _ | exact subVs_dm _ _ | exact subD_refl _ | refine And.intro ?_ ?_))
        · simp only [wkT, wkB, wkB1, subV, subVs, subD, subB, lkN_n, lkN_c, lkT_n, lkT_c, lkB_n, lkB_c, if_true, if_false, reduceIte, Nat.reduceEqDiff, true_and, and_true, and_self, inT, ofA]
          (repeat' (first | ((exact subM_mI _ rfl)) | exact trivial | rfl | exact rfl | exact subVs_d _ _ | exact subVs_dm _ _ | exact subD_refl _ | refine And.intro ?_ ?_))
      · obtain rfl : j = x.inn.length := by omega
        have hd3 := ged (Nat.le_refl x.inn.length)
        repeat' (first
          | (with_reducible refine aw_seq ?_)
          | ((with_reducible refine twoG_intro ?_ ?_) <;> intro hTw <;> first | (exact Bool.noConfusion hTw) | ((try simp only [hTw, Bool.not_true, Bool.not_false, Bool.true_and, Bool.false_and, Bool.and_true, Bool.and_false, Bool.true_or, Bool.false_or, Bool.or_true, Bool.or_false]); (first | (guard_hyp hTw : true = true; clear hTw) | (guard_hyp hTw : false = false; clear hTw) | (revert hTw; intro _))))
          | ((with_reducible refine two_intro ?_ ?_) <;> intro hTw <;> first | (exact Bool.noConfusion hTw) | ((first | (guard_hyp hTw : true = true; clear hTw) | (guard_hyp hTw : false = false; clear hTw) | (revert hTw; intro _))))
          | ((with_reducible refine And.intro ?_ ?_); (focus (first | exact keyOk_int_ | omega | rfl | decide | grind)))
          | (with_reducible refine aw_block ?_)
          | (with_reducible refine aw_scope ?_)
          | ((first
              | ((with_reducible refine aw_regionA T_ok ?_ ?_); (focus kernel_rfl))
              | ((with_reducible refine aw_drawnA T_ok ?_ ?_ ?_ ?_); (focus kernel_rfl); (focus kernel_rfl); (focus (decide +kernel)))
              | ((with_reducible refine aw_drawnF T_ok ?_ ?_ ?_ ?_); (focus kernel_rfl); (focus kernel_rfl); (focus (decide +kernel)))
              | (with_reducible refine aw_label ?_)
              | ((with_reducible refine aw_rfM ?_ ?_); (focus kernel_rfl))
              | (with_reducible refine aw_skip ?_)
              | (with_reducible refine aw_exit ?_)
              | ((with_reducible refine aw_condM ?_ ?_); (focus kernel_rfl))
              | (with_reducible refine aw_ret ?_)
            ); simp only [↓avP, avQ, if_true, if_false, forall_const, beq_self_eq_true, eq_self, ne_eq, implies_true, reduceIte, Nat.reduceEqDiff, Nat.reduceAdd, Nat.reduceSub, Int.reduceToNat, Nat.reduceLeDiff, Nat.reduceLT, reduceCtorEq, Int.reduceEq, retQ, retL, resV, RetV, RetOk, SubL, intD_B, lotD_B, flowD_B, snocI, snocL, ty_3, ty_27, ty_4, ty_24, ty_43, ty_22, ty_68, lkM_I, upM_I, dlM_I, intV_getD, intV, hd3]; try simp (disch := omega) only [av_w, av_t1, av_tp, Int.toNat_natCast]))
        refine ⟨(k + 1, m), ⟨by omega, hpa m hJ⟩, by dsimp only; omega, wk_of [(0, some 0), (1, some 1), (2, some 2)] rfl rfl ?_ ?_⟩
        · simp only [wkT, wkB, wkB1, subV, subVs, subD, subB, lkN_n, lkN_c, lkT_n, lkT_c, lkB_n, lkB_c, if_true, if_false, reduceIte, Nat.reduceEqDiff, true_and, and_true, and_self, inT, ofA]
          (repeat' (first | exact trivial | rfl | exact rfl | exact subVs_d _ _ | exact subVs_dm _ _ | exact subD_refl _ | refine And.intro ?_ ?_))
        · simp only [wkT, wkB, wkB1, subV, subVs, subD, subB, lkN_n, lkN_c, lkT_n, lkT_c, lkB_n, lkB_c, if_true, if_false, reduceIte, Nat.reduceEqDiff, true_and, and_true, and_self, inT, ofA]
          (repeat' (first | ((exact subM_mI _ rfl)) | exact trivial | rfl | exact rfl | exact subVs_d _ _ | exact subVs_dm _ _ | exact subD_refl _ | refine And.intro ?_ ?_))
    obtain rfl : k = f.lots.length := by omega
    have hd2 := ged (Nat.le_refl f.lots.length)
    repeat' (first
      | (with_reducible refine aw_seq ?_)
      | ((with_reducible refine twoG_intro ?_ ?_) <;> intro hTw <;> first | (exact Bool.noConfusion hTw) | ((try simp only [hTw, Bool.not_true, Bool.not_false, Bool.true_and, Bool.false_and, Bool.and_true, Bool.and_false, Bool.true_or, Bool.false_or, Bool.or_true, Bool.or_false]); (first | (guard_hyp hTw : true = true; clear hTw) | (guard_hyp hTw : false = false; clear hTw) | (revert hTw; intro _))))
      | ((with_reducible refine two_intro ?_ ?_) <;> intro hTw <;> first | (exact Bool.noConfusion hTw) | ((first | (guard_hyp hTw : true = true; clear hTw) | (guard_hyp hTw : false = false; clear hTw) | (revert hTw; intro _))))
      | ((with_reducible refine And.intro ?_ ?_); (focus (first | exact keyOk_int_ | omega | rfl | decide | grind)))
      | (with_reducible refine aw_block ?_)
      | (with_reducible refine aw_scope ?_)
      | ((first
          | ((with_reducible refine aw_regionA T_ok ?_ ?_); (focus kernel_rfl))
          | ((with_reducible refine aw_drawnA T_ok ?_ ?_ ?_ ?_); (focus kernel_rfl); (focus kernel_rfl); (focus (decide +kernel)))
          | ((with_reducible refine aw_drawnF T_ok ?_ ?_ ?_ ?_); (focus kernel_rfl); (focus kernel_rfl); (focus (decide +kernel)))
          | ((with_reducible apply range_intro (M) (Try.underlying68)); (focus rfl); (focus rfl); (focus rfl); intro b bm ms clock hms)
          | (with_reducible refine aw_label ?_)
          | ((with_reducible refine aw_rfM ?_ ?_); (focus kernel_rfl))
          | (with_reducible refine aw_skip ?_)
          | (with_reducible refine aw_exit ?_)
          | ((with_reducible refine aw_condM ?_ ?_); (focus kernel_rfl))
          | (with_reducible refine aw_ret ?_)
        ); simp only [↓avP, avQ, if_true, if_false, forall_const, beq_self_eq_true, eq_self, ne_eq, implies_true, reduceIte, Nat.reduceEqDiff, Nat.reduceAdd, Nat.reduceSub, Int.reduceToNat, Nat.reduceLeDiff, Nat.reduceLT, reduceCtorEq, Int.reduceEq, retQ, retL, resV, RetV, RetOk, SubL, intD_B, lotD_B, flowD_B, snocI, snocL, ty_3, ty_27, ty_4, ty_24, ty_43, ty_22, ty_68, lkM_I, upM_I, dlM_I, intV_getD, intV, hd2]; try simp (disch := omega) only [av_w, av_t1, av_tp, Int.toNat_natCast]))
    have hrep : List.replicate f.senders.toNat (dV (zD (Value.int .i64 0))) = ((List.replicate i (0 : Int)).map intD).map dV := by
      rw [hN, Int.toNat_natCast, List.map_replicate, List.map_replicate]
      rfl
    rw [hrep]
    refine aw_loopI (fun y : Array Nat × List Int => ⟨[(2, .mo 3), (75, .ptr 4 0)],
      [(4, .raw b (.mapIter (some bm) clock y.1 clock)), (3, .row 3 1 (dV (intD 0)) ((y.2.map intD).map dV)), (1, .raw bm (.map ms clock))], 5⟩)
      (fun y => y.2.length = i ∧ ∀ e ∈ ms.toList, y.1.contains e.born = true → ∀ (t : Int) (s : Nat), e.key = .int .i64 t → e.val = .int .i64 s → y.2.getD s 0 = t) (fun y => (leftOf ms y.1).size) (#[], List.replicate i 0)
      ⟨by simp, fun e _ h => by simp at h⟩ (wk_of [(1, some 1), (3, some 3), (4, some 4)] rfl rfl ?_ ?_) ?_
    · simp only [wkT, wkB, wkB1, subV, subVs, subD, subB, lkN_n, lkN_c, lkT_n, lkT_c, lkB_n, lkB_c, if_true, if_false, reduceIte, Nat.reduceEqDiff, true_and, and_true, and_self, inT, ofA]
      (repeat' (first | exact trivial | rfl | exact rfl | exact subVs_d _ _ | exact subVs_dm _ _ | exact subD_refl _ | refine And.intro ?_ ?_))
    · simp only [wkT, wkB, wkB1, subV, subVs, subD, subB, lkN_n, lkN_c, lkT_n, lkT_c, lkB_n, lkB_c, if_true, if_false, reduceIte, Nat.reduceEqDiff, true_and, and_true, and_self, inT, ofA]
      exact subVs_row _ _
    rintro ⟨seen, L⟩ ⟨hL, hseen⟩
    dsimp only at hL hseen ⊢
    repeat' (first
      | (with_reducible refine aw_seq ?_)
      | ((with_reducible refine twoG_intro ?_ ?_) <;> intro hTw <;> first | (exact Bool.noConfusion hTw) | ((try simp only [hTw, Bool.not_true, Bool.not_false, Bool.true_and, Bool.false_and, Bool.and_true, Bool.and_false, Bool.true_or, Bool.false_or, Bool.or_true, Bool.or_false]); (first | (guard_hyp hTw : true = true; clear hTw) | (guard_hyp hTw : false = false; clear hTw) | (revert hTw; intro _))))
      | ((with_reducible refine two_intro ?_ ?_) <;> intro hTw <;> first | (exact Bool.noConfusion hTw) | ((first | (guard_hyp hTw : true = true; clear hTw) | (guard_hyp hTw : false = false; clear hTw) | (revert hTw; intro _))))
      | ((with_reducible refine And.intro ?_ ?_); (focus (first | exact keyOk_int_ | omega | rfl | decide | grind)))
      | (with_reducible refine aw_block ?_)
      | (with_reducible refine aw_scope ?_)
      | ((first
          | ((with_reducible refine aw_regionA T_ok ?_ ?_); (focus kernel_rfl))
          | ((with_reducible refine aw_drawnA T_ok ?_ ?_ ?_ ?_); (focus kernel_rfl); (focus kernel_rfl); (focus (decide +kernel)))
          | ((with_reducible refine aw_drawnF T_ok ?_ ?_ ?_ ?_); (focus kernel_rfl); (focus kernel_rfl); (focus (decide +kernel)))
          | ((with_reducible apply next_intro 1 (hbo := hms.born)); (focus rfl); (focus rfl); (focus rfl))
          | (with_reducible refine aw_label ?_)
          | ((with_reducible refine aw_rfM ?_ ?_); (focus kernel_rfl))
          | (with_reducible refine aw_skip ?_)
          | (with_reducible refine aw_exit ?_)
          | ((with_reducible refine aw_condM ?_ ?_); (focus kernel_rfl))
          | (with_reducible refine aw_ret ?_)
        ); simp only [↓avP, avQ, if_true, if_false, forall_const, beq_self_eq_true, eq_self, ne_eq, implies_true, reduceIte, Nat.reduceEqDiff, Nat.reduceAdd, Nat.reduceSub, Int.reduceToNat, Nat.reduceLeDiff, Nat.reduceLT, reduceCtorEq, Int.reduceEq, retQ, retL, resV, RetV, RetOk, SubL, intD_B, lotD_B, flowD_B, snocI, snocL, ty_3, ty_27, ty_4, ty_24, ty_43, ty_22, ty_68, lkM_I, upM_I, dlM_I, intV_getD, intV]; try simp (disch := omega) only [av_w, av_t1, av_tp, Int.toNat_natCast]))
    refine ⟨fun hz => ?_, fun e hel => ?_⟩
    · repeat (first
        | (with_reducible refine aw_seq ?_)
        | ((with_reducible refine And.intro ?_ ?_); (focus (first | exact keyOk_int_ | omega | rfl | decide | grind)))
        | (with_reducible refine aw_block ?_)
        | (with_reducible refine aw_scope ?_)
        | ((first
            | ((with_reducible refine aw_regionA T_ok ?_ ?_); (focus kernel_rfl))
            | ((with_reducible refine aw_drawnA T_ok ?_ ?_ ?_ ?_); (focus kernel_rfl); (focus kernel_rfl); (focus (decide +kernel)))
            | ((with_reducible refine aw_drawnF T_ok ?_ ?_ ?_ ?_); (focus kernel_rfl); (focus kernel_rfl); (focus (decide +kernel)))
            | (with_reducible refine aw_label ?_)
            | ((with_reducible refine aw_rfM ?_ ?_); (focus kernel_rfl))
            | (with_reducible refine aw_skip ?_)
            | (with_reducible refine aw_exit ?_)
          ); simp only [↓avP, avQ, if_true, if_false, forall_const, beq_self_eq_true, eq_self, ne_eq, implies_true, reduceIte, Nat.reduceEqDiff, Nat.reduceAdd, Nat.reduceSub, Int.reduceToNat, Nat.reduceLeDiff, Nat.reduceLT, reduceCtorEq, Int.reduceEq, retQ, retL, resV, RetV, RetOk, SubL, intD_B, lotD_B, flowD_B, snocI, snocL, ty_3, ty_27, ty_4, ty_24, ty_43, ty_22, ty_68, lkM_I, upM_I, dlM_I, intV_getD, intV]; try simp (disch := omega) only [av_w, av_t1, av_tp, Int.toNat_natCast]))
      refine aw_frz 3 (intD 0) (L.map intD) rfl rfl ?_
      dsimp only [frzT]
      repeat' (first
        | (with_reducible refine aw_seq ?_)
        | ((with_reducible refine twoG_intro ?_ ?_) <;> intro hTw <;> first | (exact Bool.noConfusion hTw) | ((try simp only [hTw, Bool.not_true, Bool.not_false, Bool.true_and, Bool.false_and, Bool.and_true, Bool.and_false, Bool.true_or, Bool.false_or, Bool.or_true, Bool.or_false]); (first | (guard_hyp hTw : true = true; clear hTw) | (guard_hyp hTw : false = false; clear hTw) | (revert hTw; intro _))))
        | ((with_reducible refine two_intro ?_ ?_) <;> intro hTw <;> first | (exact Bool.noConfusion hTw) | ((first | (guard_hyp hTw : true = true; clear hTw) | (guard_hyp hTw : false = false; clear hTw) | (revert hTw; intro _))))
        | ((with_reducible refine And.intro ?_ ?_); (focus (first | exact keyOk_int_ | omega | rfl | decide | grind)))
        | (with_reducible refine aw_block ?_)
        | (with_reducible refine aw_scope ?_)
        | ((first
            | ((with_reducible refine aw_regionA T_ok ?_ ?_); (focus kernel_rfl))
            | ((with_reducible refine aw_drawnA T_ok ?_ ?_ ?_ ?_); (focus kernel_rfl); (focus kernel_rfl); (focus (decide +kernel)))
            | ((with_reducible refine aw_drawnF T_ok ?_ ?_ ?_ ?_); (focus kernel_rfl); (focus kernel_rfl); (focus (decide +kernel)))
            | (with_reducible refine aw_label ?_)
            | ((with_reducible refine aw_rfM ?_ ?_); (focus kernel_rfl))
            | (with_reducible refine aw_skip ?_)
            | (with_reducible refine aw_exit ?_)
            | ((with_reducible refine aw_condM ?_ ?_); (focus kernel_rfl))
            | (with_reducible refine aw_ret ?_)
          ); simp only [↓avP, avQ, if_true, if_false, forall_const, beq_self_eq_true, eq_self, ne_eq, implies_true, reduceIte, Nat.reduceEqDiff, Nat.reduceAdd, Nat.reduceSub, Int.reduceToNat, Nat.reduceLeDiff, Nat.reduceLT, reduceCtorEq, Int.reduceEq, retQ, retL, resV, RetV, RetOk, SubL, intD_B, lotD_B, flowD_B, snocI, snocL, ty_3, ty_27, ty_4, ty_24, ty_43, ty_22, ty_68, lkM_I, upM_I, dlM_I, intV_getD, intV]; try simp (disch := omega) only [av_w, av_t1, av_tp, Int.toNat_natCast]))
      have hLm : L = mapAt f i := by
        refine List.ext_getElem? fun s => ?_
        rcases Nat.lt_or_ge s i with hs | hs
        · obtain ⟨e, he, hek, hev⟩ := ofInv_some hI hms hs
          have hall : seen.contains e.born = true := left_none hz he
          have := hseen e he hall _ s hek hev
          rw [List.getD_eq_getElem?_getD, List.getElem?_eq_getElem (by omega), Option.getD_some] at this
          rw [List.getElem?_eq_getElem (by omega), this, mapAt, List.getElem?_map, List.getElem?_range hs]
          rfl
        · rw [List.getElem?_eq_none (by omega), List.getElem?_eq_none (by rw [mapAt_len]; exact hs)]
      rw [hR, he, ← hLm]
      exact ⟨Sub.refl _, Sub.refl _⟩
    · obtain ⟨he1, he2⟩ := mem_left hel
      obtain ⟨t, s, hek, hev, hsi, hfo⟩ := ofInv_entry hI hms he1
      repeat' (first
        | (with_reducible refine aw_seq ?_)
        | ((with_reducible refine twoG_intro ?_ ?_) <;> intro hTw <;> first | (exact Bool.noConfusion hTw) | ((try simp only [hTw, Bool.not_true, Bool.not_false, Bool.true_and, Bool.false_and, Bool.and_true, Bool.and_false, Bool.true_or, Bool.false_or, Bool.or_true, Bool.or_false]); (first | (guard_hyp hTw : true = true; clear hTw) | (guard_hyp hTw : false = false; clear hTw) | (revert hTw; intro _))))
        | ((with_reducible refine two_intro ?_ ?_) <;> intro hTw <;> first | (exact Bool.noConfusion hTw) | ((first | (guard_hyp hTw : true = true; clear hTw) | (guard_hyp hTw : false = false; clear hTw) | (revert hTw; intro _))))
        | ((with_reducible refine And.intro ?_ ?_); (focus (first | exact keyOk_int_ | omega | rfl | decide | grind)))
        | (with_reducible refine aw_block ?_)
        | (with_reducible refine aw_scope ?_)
        | ((first
            | ((with_reducible refine aw_regionA T_ok ?_ ?_); (focus kernel_rfl))
            | ((with_reducible refine aw_drawnA T_ok ?_ ?_ ?_ ?_); (focus kernel_rfl); (focus kernel_rfl); (focus (decide +kernel)))
            | ((with_reducible refine aw_drawnF T_ok ?_ ?_ ?_ ?_); (focus kernel_rfl); (focus kernel_rfl); (focus (decide +kernel)))
            | ((with_reducible apply entry_intro 1 (hbo := hms.born) (he := he1)); (focus rfl); (focus rfl); (focus rfl))
            | (with_reducible refine aw_label ?_)
            | ((with_reducible refine aw_rfM ?_ ?_); (focus kernel_rfl))
            | (with_reducible refine aw_skip ?_)
            | (with_reducible refine aw_exit ?_)
            | ((with_reducible refine aw_condM ?_ ?_); (focus kernel_rfl))
            | (with_reducible refine aw_ret ?_)
          ); simp only [↓avP, avQ, if_true, if_false, forall_const, beq_self_eq_true, eq_self, ne_eq, implies_true, reduceIte, Nat.reduceEqDiff, Nat.reduceAdd, Nat.reduceSub, Int.reduceToNat, Nat.reduceLeDiff, Nat.reduceLT, reduceCtorEq, Int.reduceEq, retQ, retL, resV, RetV, RetOk, SubL, intD_B, lotD_B, flowD_B, snocI, snocL, ty_3, ty_27, ty_4, ty_24, ty_43, ty_22, ty_68, lkM_I, upM_I, dlM_I, intV_getD, intV, hek, hev]; try simp (disch := omega) only [av_w, av_t1, av_tp, Int.toNat_natCast]))
      refine ⟨(seen.push e.born, L.set s t), ⟨by simp [hL], fun e' he' hc' t' s' hk' hv' => ?_⟩, left_shrinks _ _ _ hel, wk_of [(1, some 1), (3, some 3), (4, some 4)] rfl rfl ?_ ?_⟩
      · obtain ⟨t2, s2, hek2, hev2, hsi2, hfo2⟩ := ofInv_entry hI hms he'
        rw [hek2] at hk'
        rw [hev2] at hv'
        cases hk'
        have hs' : s2 = s' := by
          simp only [Value.int.injEq, true_and] at hv'
          omega
        subst hs'
        by_cases hss : s = s2
        · subst hss
          rw [List.getD_eq_getElem?_getD, List.getElem?_set_self (by omega), Option.getD_some, ← hfo, hfo2]
        · rw [List.getD_eq_getElem?_getD, List.getElem?_set_ne hss, ← List.getD_eq_getElem?_getD]
          refine hseen e' he' ?_ _ _ hek2 hev2
          rw [Array.contains_push] at hc'
          rw [Bool.or_eq_true] at hc'
          rcases hc' with hc' | hc'
          · exact hc'
          · exfalso
            have hb : e'.born = e.born := by simpa using hc'
            have := born_inj hms.born he' he1 hb
            subst this
            rw [hev] at hev2
            simp only [Value.int.injEq, true_and] at hev2
            omega
      · simp only [wkT, wkB, wkB1, subV, subVs, subD, subB, lkN_n, lkN_c, lkT_n, lkT_c, lkB_n, lkB_c, if_true, if_false, reduceIte, Nat.reduceEqDiff, true_and, and_true, and_self, inT, ofA]
      · simp only [wkT, wkB, wkB1, subV, subVs, subD, subB, lkN_n, lkN_c, lkT_n, lkT_c, lkB_n, lkB_c, if_true, if_false, reduceIte, Nat.reduceEqDiff, true_and, and_true, and_self, inT, ofA]
        rw [row_set L s t]
        exact ⟨rfl, subVs_row _ _⟩
end Go.Proofs.Ytfndjciojljkfaa

namespace Go.Proofs.Ytfndjciojljkfaa
set_option linter.unusedSimpArgs false
set_option linter.unusedVariables false
open Go.RowKit
set_option maxRecDepth 100000
set_option maxHeartbeats 4000000
theorem Spec.args {P : Program} {f : FuncId} {xs ys : List A} {r : Ret} (h : Spec P f ys r) (hs : SubL xs ys) : Spec P f xs r := fun F w us hF ha => h F w us hF (subL_ok hs ha)
def okIb (l : List Int) : Bool := l.all (fun n => decide (-9223372036854775808 ≤ n ∧ n ≤ 9223372036854775807)) && decide (l.length ≤ 140737488351232)
theorem okI_b {l : List Int} (h : okIb l = true) : (∀ n ∈ l, -9223372036854775808 ≤ n ∧ n ≤ 9223372036854775807) ∧ l.length ≤ 140737488351232 := by
  unfold okIb at h
  simp only [Bool.and_eq_true, List.all_eq_true, decide_eq_true_eq] at h
  exact h
def okFb (f : FlowP) : Bool := decide (-9223372036854775808 ≤ f.senders ∧ f.senders ≤ 9223372036854775807) && decide (f.lots.length ≤ 140737488351232) && f.lots.all fun x => okIb x.inn && okIb x.perm
theorem okF_b {f : FlowP} (h : okFb f = true) : OkF f := by
  unfold okFb at h
  simp only [Bool.and_eq_true, List.all_eq_true, decide_eq_true_eq] at h
  exact ⟨h.1.1, h.1.2, fun x hx => ⟨(okI_b (h.2 x hx).1).1, (okI_b (h.2 x hx).2).1, (okI_b (h.2 x hx).1).2, (okI_b (h.2 x hx).2).2⟩⟩
abbrev iL (n : Int) : D := .c (.int .i64 n)
abbrev nilL : D := .c (.slice none 0 0)
abbrev isL (l : List Int) : D := .sl 1 (zD (.int .i64 0)) (l.map fun n => [iL n])
abbrev lotZ : List D := zD (.agg #[.slice none 0 0, .bool false, .slice none 0 0])
abbrev xF1 : A := .agg [iL 3, .sl 3 lotZ [[isL [0, 2], .c (.bool true), isL [1, 0]]]]
abbrev xG1 : A := .agg [iL 3, .sl 3 lotZ [[isL [0, 2], .c (.bool false), nilL]]]
abbrev xN (n : Int) : A := .agg [iL n, nilL]
abbrev F1 : FlowP := ⟨3, [⟨[0, 2], true, [1, 0]⟩]⟩
abbrev G1 : FlowP := ⟨3, [⟨[0, 2], false, []⟩]⟩
abbrev xL : A := .one (.sl 1 (zD (.slice none 0 0)) [[isL [1, 2]]])
theorem sub_is (l : List Int) : SubD (isL l) (.sl 1 (intD 0) (l.map intD)) := SubD.refl _
theorem sub_nil {sz : Nat} {d0 : List D} : SubD nilL (.sl sz d0 []) := SubD.of _ _ rfl
theorem sF1 : Sub xF1 (.agg (flowD F1)) := Sub.aggL ⟨SubD.refl _, SubD.sl ⟨⟨sub_is _, SubD.refl _, sub_is _, trivial⟩, trivial⟩, trivial⟩
theorem sG1 : Sub xG1 (.agg (flowD G1)) := Sub.aggL ⟨SubD.refl _, SubD.sl ⟨⟨sub_is _, SubD.refl _, sub_nil, trivial⟩, trivial⟩, trivial⟩
theorem sN (n : Int) : Sub (xN n) (.agg (flowD ⟨n, []⟩)) := Sub.aggL ⟨SubD.refl _, sub_nil, trivial⟩
theorem sL : Sub xL (aIss [[1, 2]]) := fun F w v hv => SubD.sl (sz := 1) (d0 := zD (.slice none 0 0)) (d1 := [.sl 1 (intD 0) []]) (es := [[isL [1, 2]]]) (fs := [[.sl 1 (intD 0) ([1, 2].map intD)]]) ⟨⟨sub_is _, trivial⟩, trivial⟩ F w v hv
theorem ex_ends {x : A} {f : FlowP} (l : List Int) (e : Int) (hx : Sub x (.agg (flowD f))) (hf : okFb f = true) (h1 : endsR f = l) (h2 : checkF f = e) : Spec Try.prog 18 [x] (.rt [aIs l, aI e]) := by
  subst h1 h2
  exact (fends_spec f (okF_b hf)).args ⟨hx, trivial⟩
theorem ex_map {x : A} {f : FlowP} (l : List Int) (e : Int) (hx : Sub x (.agg (flowD f))) (hf : okFb f = true) (h1 : mapR f = l) (h2 : errM f = e) : Spec Try.prog 24 [x] (.rt [aIs l, aI e]) := by
  subst h1 h2
  exact (fmap_spec f (okF_b hf)).args ⟨hx, trivial⟩
theorem ex_fcheck {x : A} {f : FlowP} (e : Int) (hx : Sub x (.agg (flowD f))) (hf : okFb f = true) (h2 : checkF f = e) : Spec Try.prog 20 [x] (.r1 (aI e)) := by
  subst h2
  exact (fcheck_spec f (okF_b hf)).args ⟨hx, trivial⟩
theorem ex_view {x y z : A} {f : FlowP} {ls : List (List Int)} {co : List Int} (g : FlowP) (e : Int) (hx : Sub x (.agg (flowD f))) (hy : Sub y (aIss ls)) (hz : Sub z (aIs co)) (hf : okFb f = true) (hl : (ls.all okIb && decide (ls.length ≤ 140737488351232)) = true) (hc : okIb co = true) (h1 : viewR f ls co = g) (h2 : errV f ls co = e) :
    Spec Try.prog 26 [x, y, z] (.rt [.agg (flowD g), aI e]) := by
  subst h1 h2
  simp only [Bool.and_eq_true, List.all_eq_true, decide_eq_true_eq] at hl
  exact (fview_spec f ls co (okF_b hf) hl.2 (fun x hx => ⟨(okI_b (hl.1 x hx)).2, (okI_b (hl.1 x hx)).1⟩) (okI_b hc).2 (okI_b hc).1).args ⟨hx, hy, hz, trivial⟩
theorem ex_same {x y : A} {f g : FlowP} (hx : Sub x (.agg (flowD f))) (hy : Sub y (.agg (flowD g))) (hf : okFb f = true) (hg : okFb g = true) : Spec Try.prog 28 [x, y] (.r1 (aB (decide (f = g)))) :=
  (qfsame_spec f g (okF_b hf) (okF_b hg)).args ⟨hx, hy, trivial⟩
theorem fsane_spec : Spec Try.prog 16 [] (.r1 (aB true)) := by
  refine spec_of T_ok Try.func16 (by dsimp only [Try.f16]) rfl rfl (by simp) fun w F => ?_
  have s1 := ex_ends [1, 3, 4] 0 sF1 (by decide +kernel) (by decide +kernel) (by decide +kernel)
  have s2 := ex_map [4, 1, 3] 0 sF1 (by decide +kernel) (by decide +kernel) (by decide +kernel)
  have s3 := ex_ends [0, 1] 0 (sN 2) (by decide +kernel) (by decide +kernel) (by decide +kernel)
  have s4 := ex_view (z := .one (isL [1])) G1 0 sF1 sL (Sub.refl (aIs [1])) (by decide +kernel) (by decide +kernel) (by decide +kernel) (by decide +kernel) (by decide +kernel)
  have s5 := ex_view (z := .one (isL [1, 2])) F1 0 sF1 sL (Sub.refl (aIs [1, 2])) (by decide +kernel) (by decide +kernel) (by decide +kernel) (by decide +kernel) (by decide +kernel)
  have s6 := ex_map (f := G1) [] 1 (Sub.refl _) (by decide +kernel) (by decide +kernel) (by decide +kernel)
  have s7 := ex_view (y := .one nilL) (z := .one nilL) (ls := []) (co := []) default 1 sF1 (Sub.nil _ _) (Sub.nil _ _) (by decide +kernel) (by decide +kernel) (by decide +kernel) (by decide +kernel) (by decide +kernel)
  have q1 := ex_same (f := G1) (g := G1) (Sub.refl _) sG1 (by decide +kernel) (by decide +kernel)
  have q2 := ex_same (f := F1) (g := F1) (Sub.refl _) sF1 (by decide +kernel) (by decide +kernel)
  have c1 := ex_fcheck 0 sF1 (by decide +kernel) (by decide +kernel)
  have c2 := ex_fcheck 0 (sN 0) (by decide +kernel) (by decide +kernel)
  have c3 := ex_fcheck (x := .agg [iL 1, .sl 3 lotZ [[nilL, .c (.bool false), nilL]]]) (f := ⟨1, [default]⟩) 250 (Sub.aggL ⟨SubD.refl _, SubD.sl ⟨⟨sub_nil, SubD.refl _, sub_nil, trivial⟩, trivial⟩, trivial⟩) (by decide +kernel) (by decide +kernel)
  have c4 := ex_fcheck (x := .agg [iL 1, .sl 3 lotZ [[isL [0], .c (.bool false), nilL], [isL [0], .c (.bool false), nilL]]]) (f := ⟨1, [⟨[0], false, []⟩, ⟨[0], false, []⟩]⟩) 250 (Sub.aggL ⟨SubD.refl _, SubD.sl ⟨⟨sub_is _, SubD.refl _, sub_nil, trivial⟩, ⟨sub_is _, SubD.refl _, sub_nil, trivial⟩, trivial⟩, trivial⟩) (by decide +kernel) (by decide +kernel)
  have c5 := ex_fcheck 250 (sN (-1)) (by decide +kernel) (by decide +kernel)
  have c6 := ex_fcheck 2 (sN 65) (by decide +kernel) (by decide +kernel)
  have e1 := sameInts_spec [1, 3, 4] [1, 3, 4] (by decide)
  have e2 := sameInts_spec [4, 1, 3] [4, 1, 3] (by decide)
  have e3 := sameInts_spec [0, 1] [0, 1] (by decide)
  repeat' (first
    | (with_reducible refine aw_seq ?_)
    | ((with_reducible refine twoG_intro ?_ ?_) <;> intro hTw <;> first | (exact Bool.noConfusion hTw) | ((try simp only [hTw, Bool.not_true, Bool.not_false, Bool.true_and, Bool.false_and, Bool.and_true, Bool.and_false, Bool.true_or, Bool.false_or, Bool.or_true, Bool.or_false]); (first | (guard_hyp hTw : true = true; clear hTw) | (guard_hyp hTw : false = false; clear hTw) | (revert hTw; intro _))))
    | ((with_reducible refine two_intro ?_ ?_) <;> intro hTw <;> first | (exact Bool.noConfusion hTw) | ((first | (guard_hyp hTw : true = true; clear hTw) | (guard_hyp hTw : false = false; clear hTw) | (revert hTw; intro _))))
    | ((with_reducible refine And.intro ?_ ?_); (focus (first | omega | rfl | decide | grind)))
    | (with_reducible refine aw_block ?_)
    | (with_reducible refine aw_scope ?_)
    | ((first
        | ((with_reducible refine aw_regionA T_ok ?_ ?_); (focus kernel_rfl))
        | ((with_reducible refine aw_drawnA T_ok ?_ ?_ ?_ ?_); (focus kernel_rfl); (focus kernel_rfl); (focus (decide +kernel)))
        | ((with_reducible refine aw_drawnF T_ok ?_ ?_ ?_ ?_); (focus kernel_rfl); (focus kernel_rfl); (focus (decide +kernel)))
        | ((with_reducible refine callK_intro (s1) (by with_unfolding_all rfl) ?_ ?_); (focus kernel_rfl))
        | ((with_reducible refine callI_spec (s1) (by with_unfolding_all rfl) ?_ ?_ ?_); (focus kernel_rfl); (focus kernel_rfl))
        | ((with_reducible refine callK_intro (s2) (by with_unfolding_all rfl) ?_ ?_); (focus kernel_rfl))
        | ((with_reducible refine callI_spec (s2) (by with_unfolding_all rfl) ?_ ?_ ?_); (focus kernel_rfl); (focus kernel_rfl))
        | ((with_reducible refine callK_intro (s3) (by with_unfolding_all rfl) ?_ ?_); (focus kernel_rfl))
        | ((with_reducible refine callI_spec (s3) (by with_unfolding_all rfl) ?_ ?_ ?_); (focus kernel_rfl); (focus kernel_rfl))
        | ((with_reducible refine callK_intro (s4) (by with_unfolding_all rfl) ?_ ?_); (focus kernel_rfl))
        | ((with_reducible refine callI_spec (s4) (by with_unfolding_all rfl) ?_ ?_ ?_); (focus kernel_rfl); (focus kernel_rfl))
        | ((with_reducible refine callK_intro (s5) (by with_unfolding_all rfl) ?_ ?_); (focus kernel_rfl))
        | ((with_reducible refine callI_spec (s5) (by with_unfolding_all rfl) ?_ ?_ ?_); (focus kernel_rfl); (focus kernel_rfl))
        | ((with_reducible refine callK_intro (s6) (by with_unfolding_all rfl) ?_ ?_); (focus kernel_rfl))
        | ((with_reducible refine callI_spec (s6) (by with_unfolding_all rfl) ?_ ?_ ?_); (focus kernel_rfl); (focus kernel_rfl))
        | ((with_reducible refine callK_intro (s7) (by with_unfolding_all rfl) ?_ ?_); (focus kernel_rfl))
        | ((with_reducible refine callI_spec (s7) (by with_unfolding_all rfl) ?_ ?_ ?_); (focus kernel_rfl); (focus kernel_rfl))
        | ((with_reducible refine callK_intro (q1) (by with_unfolding_all rfl) ?_ ?_); (focus kernel_rfl))
        | ((with_reducible refine callI_spec (q1) (by with_unfolding_all rfl) ?_ ?_ ?_); (focus kernel_rfl); (focus kernel_rfl))
        | ((with_reducible refine callK_intro (q2) (by with_unfolding_all rfl) ?_ ?_); (focus kernel_rfl))
        | ((with_reducible refine callI_spec (q2) (by with_unfolding_all rfl) ?_ ?_ ?_); (focus kernel_rfl); (focus kernel_rfl))
        | ((with_reducible refine callK_intro (c1) (by with_unfolding_all rfl) ?_ ?_); (focus kernel_rfl))
        | ((with_reducible refine callI_spec (c1) (by with_unfolding_all rfl) ?_ ?_ ?_); (focus kernel_rfl); (focus kernel_rfl))
        | ((with_reducible refine callK_intro (c2) (by with_unfolding_all rfl) ?_ ?_); (focus kernel_rfl))
        | ((with_reducible refine callI_spec (c2) (by with_unfolding_all rfl) ?_ ?_ ?_); (focus kernel_rfl); (focus kernel_rfl))
        | ((with_reducible refine callK_intro (c3) (by with_unfolding_all rfl) ?_ ?_); (focus kernel_rfl))
        | ((with_reducible refine callI_spec (c3) (by with_unfolding_all rfl) ?_ ?_ ?_); (focus kernel_rfl); (focus kernel_rfl))
        | ((with_reducible refine callK_intro (c4) (by with_unfolding_all rfl) ?_ ?_); (focus kernel_rfl))
        | ((with_reducible refine callI_spec (c4) (by with_unfolding_all rfl) ?_ ?_ ?_); (focus kernel_rfl); (focus kernel_rfl))
        | ((with_reducible refine callK_intro (c5) (by with_unfolding_all rfl) ?_ ?_); (focus kernel_rfl))
        | ((with_reducible refine callI_spec (c5) (by with_unfolding_all rfl) ?_ ?_ ?_); (focus kernel_rfl); (focus kernel_rfl))
        | ((with_reducible refine callK_intro (c6) (by with_unfolding_all rfl) ?_ ?_); (focus kernel_rfl))
        | ((with_reducible refine callI_spec (c6) (by with_unfolding_all rfl) ?_ ?_ ?_); (focus kernel_rfl); (focus kernel_rfl))
        | ((with_reducible refine callK_intro (e1) (by with_unfolding_all rfl) ?_ ?_); (focus kernel_rfl))
        | ((with_reducible refine callI_spec (e1) (by with_unfolding_all rfl) ?_ ?_ ?_); (focus kernel_rfl); (focus kernel_rfl))
        | ((with_reducible refine callK_intro (e2) (by with_unfolding_all rfl) ?_ ?_); (focus kernel_rfl))
        | ((with_reducible refine callI_spec (e2) (by with_unfolding_all rfl) ?_ ?_ ?_); (focus kernel_rfl); (focus kernel_rfl))
        | ((with_reducible refine callK_intro (e3) (by with_unfolding_all rfl) ?_ ?_); (focus kernel_rfl))
        | ((with_reducible refine callI_spec (e3) (by with_unfolding_all rfl) ?_ ?_ ?_); (focus kernel_rfl); (focus kernel_rfl))
        | (with_reducible refine aw_label ?_)
        | ((with_reducible refine aw_rfM ?_ ?_); (focus kernel_rfl))
        | (with_reducible refine aw_skip ?_)
        | (with_reducible refine aw_exit ?_)
        | ((with_reducible refine aw_condM ?_ ?_); (focus kernel_rfl))
        | (with_reducible refine aw_ret ?_)
      ); simp only [↓avP, avQ, if_true, if_false, forall_const, beq_self_eq_true, eq_self, ne_eq, implies_true, reduceIte, Nat.reduceEqDiff, Nat.reduceAdd, Nat.reduceSub, Int.reduceToNat, Nat.reduceLeDiff, Nat.reduceLT, reduceCtorEq, Int.reduceEq, retQ, retL, resV, RetV, RetOk, SubL, intD_B, lotD_B, flowD_B, snocI, snocL, ty_3, ty_27, ty_4, ty_24, ty_43, ty_22, ty_33]; try simp (disch := omega) only [av_w, av_t1, av_tp, Int.toNat_natCast]))
  all_goals exact Sub.of_eq (congrArg aB (by decide))
end Go.Proofs.Ytfndjciojljkfaa

namespace Go.Proofs.Ytfndjciojljkfaa
set_option linter.unusedSimpArgs false
set_option linter.unusedVariables false
open Go.ChangeShapes Go.WideShapes Go.ChangeAt Go.RowKit

theorem trodAll_below {H : Type} {enc : TypeId × Value → H} {P : Program} (hl : laidOutB P = true) {W W' : World} (hb : Below W.heap.size W W') {sp : Nat → Bool} :
    ∀ {ts : List TypeId} {vs : List Value} {ds : List (DataW H)} {ps : List MemPlace}, (∀ t ∈ ts, P.readableRec t = true ∧ t < P.types.size) → (∀ x ∈ ps, x.block < W.heap.size) → (∀ x ∈ ps, sp x.block = true) →
      DataW.TrodAll enc P W 0 (fun _ => true) true ts vs ds ps → DataW.TrodAll enc P W' 0 sp true ts vs ds ps
  | [], _, _, _, _, _, _, h => by
    obtain ⟨rfl, rfl, rfl⟩ := trodAll_nil h
    exact rfl
  | t :: ts, _, _, _, hr, hlt, hsp, h => by
    obtain ⟨v, vs1, d, ds1, a, b, rfl, rfl, rfl, h1, h2⟩ := trodAll_cons h
    refine ⟨a, b, ?_, trodAll_below hl hb (fun u hu => hr u (List.mem_cons_of_mem _ hu)) (fun x hx => hlt x (by simp [hx])) (fun x hx => hsp x (by simp [hx])) h2, rfl⟩
    exact WideElems.Trod_stays hl (hr t (by simp)).1 (hr t (by simp)).2 h1 (fun x hx => hb.same (hlt x (by simp [hx]))) (fun x hx => hsp x (by simp [hx]))

/-- the post of a law that answers true and has only read -/
theorem post_read {H : Type} {enc : TypeId × Value → H} {P : Program} {f : Func} {s : ChangeSpec} {fresh handsOn again : Bool} {W W' : World} {args : Array Value} {ds : List (DataW H)} {before : List MemPlace} {tb : TypeId}
    (hl : laidOutB P = true) (hs : s.vars = []) (hr : f.resultTypes = #[tb]) (htb : P.underlying tb = some .bool)
    (hts : (f.params.toList.all fun t => P.readableRec t && decide (t < P.types.size)) = true)
    (hfn : s.fn H (ds ++ []) = { results := [.lit (.bool true)], args := ds })
    (hW : DataW.Whole enc P f.params.toList s.vars false W args.toList ds [] before) (hb : Below W.heap.size W W') :
    s.post enc P f false fresh handsOn again W args (.bool true) W' := by
  have hW0 := hW
  have hlt : ∀ p ∈ before, p.block < W.heap.size := fun p hp => hW.lt p hp
  have hold : ∀ p ∈ before, (fun b => decide (b < W.heap.size)) p.block = true := fun p hp => by simpa using hlt p hp
  rw [hs] at hW
  obtain ⟨p, q, hA, hV, rfl, hz, hn⟩ := hW
  obtain ⟨_, rfl⟩ := trodVars_none hV
  rw [List.append_nil] at hlt hold hz hn
  have hts' : ∀ t ∈ f.params.toList, P.readableRec t = true ∧ t < P.types.size := fun t ht => by
    have := List.all_eq_true.1 hts t ht
    simpa using this
  have hargs : ∀ sp : Nat → Bool, (∀ x ∈ p, sp x.block = true) → DataW.TrodAll enc P W' 0 sp true f.params.toList args.toList (s.fn H (ds ++ [])).args p := fun sp hsp => by
    rw [hfn]
    exact trodAll_below hl hb hts' hlt hsp hA
  have hres : ∀ (b : Nat) (sp : Nat → Bool) (hd : Bool), DataW.TrodAll enc P W' b sp hd f.resultTypes.toList ((Value.bool true).resultList f.resultTypes.size) (s.fn H (ds ++ [])).results [] := fun b sp hd => by
    rw [hfn, hr]
    exact trodAll_cons_mk (shut_bool htb _) trodAll_mk0
  have hvars : ∀ sp : Nat → Bool, DataW.TrodVars enc P W' sp s.vars (s.fn H (ds ++ [])).vars [] := fun sp => by
    rw [hfn, hs]
    exact rfl
  have hok : ∀ (j : Nat) (t : TypeId) (r : Value), f.resultTypes[j]? = some t → ((Value.bool true).resultList f.resultTypes.size)[j]? = some r → Value.okWide P W' .any 0 t r :=
    ok_one hr rfl (okWide_bool_mk htb _)
  refine ⟨ds, [], p ++ [], [], p, [], hW0, hres _ _ _, hargs _ hold, hvars _, World.keptBut_mono (fun x hx => ⟨hx, ?_⟩) (hb.frame (· ∈ p ++ [])), fun _ => ?_⟩
  · simpa using hx
  · refine ⟨hok, _, _, ([] ++ p) ++ [], ⟨[] ++ p, [], trodAll_append (hargs _ (fun _ _ => rfl)) (hres _ _ _), hvars _, rfl, ?_, ?_⟩, ?_⟩
    · intro b off hp
      have hp' : MemPlace.cell b off ∈ p := by simpa using hp
      rw [hb.frozen (p := ⟨b, off, none⟩) (hlt _ hp')]
      exact hz b off hp'
    · intro ha
      cases ha
    · intro x hx _
      simpa using hx

theorem has_lt {P : Program} {w : World} {r : Reach} {base : Nat} {a : Addr} {e : TypeId} {n : Nat} (h : w.has P r base a e n) : a.spot = none ∧ a.block < w.heap.size := by
  obtain ⟨_, h1, row, cells, h2, _⟩ := h
  refine ⟨h1, ?_⟩
  unfold World.shape? at h2
  cases hh : w.heap[a.block]? with
  | none => rw [hh] at h2; cases h2
  | some o => exact (Array.getElem?_eq_some_iff.1 hh).1
end Go.Proofs.Ytfndjciojljkfaa
