import Derived.Test.YtfmefdeldgmhpaaH3
import Derived.Scope
namespace Go.Proofs.Ytfmefdeldgmhpaa
set_option linter.unusedSimpArgs false
set_option linter.unusedVariables false
open Go.RowKit
set_option maxRecDepth 100000
set_option maxHeartbeats 4000000
def err1 (x : Ent) : Int := if validE x = true then 0 else 330
def i64 (n : Int) : Prop := -9223372036854775808 ≤ n ∧ n ≤ 9223372036854775807
theorem gcheck1_spec (x : Ent) (hx : i64 x.kind) : Spec Try.prog 52 [.agg (entD x)] (.r1 (aI (err1 x))) := by
  refine spec_of T_ok Try.func52 (by dsimp only [Try.f52]) rfl rfl (by simp) fun w F => ?_
  by_cases h1 : x.kind = 1
  · cases x
    simp only at h1
    subst h1
    repeat' (first
      | (with_reducible refine aw_seq ?_)
      | ((with_reducible refine twoG_intro ?_ ?_) <;> intro hTw <;> first | (exact Bool.noConfusion hTw) | ((try simp only [hTw, Bool.not_true, Bool.not_false, Bool.true_and, Bool.false_and, Bool.and_true, Bool.and_false, Bool.true_or, Bool.false_or, Bool.or_true, Bool.or_false]); (first | (guard_hyp hTw : true = true; clear hTw) | (guard_hyp hTw : false = false; clear hTw) | (revert hTw; intro _))))
      | ((with_reducible refine two_intro ?_ ?_) <;> intro hTw <;> first | (exact Bool.noConfusion hTw) | ((first | (guard_hyp hTw : true = true; clear hTw) | (guard_hyp hTw : false = false; clear hTw) | (revert hTw; intro _))))
      | ((with_reducible refine And.intro ?_ ?_); (focus (first | exact keyOk_int_ | omega | rfl | decide | grind)))
      | (with_reducible refine aw_block ?_)
      | (with_reducible refine aw_scope ?_)
      | ((first
          | ((with_reducible refine aw_regionA T_ok ?_ ?_); (focus kernel_rfl))
          | ((with_reducible refine aw_drawnA T_ok ?_ ?_ ?_ ?_); (focus kernel_rfl); (focus kernel_rfl); (focus kernel_rfl))
          | ((with_reducible refine callK_intro (gkinds_spec) (by with_unfolding_all rfl) ?_ ?_); (focus kernel_rfl))
          | ((with_reducible refine callI_spec (gkinds_spec) (by with_unfolding_all rfl) ?_ ?_ ?_); (focus kernel_rfl); (focus kernel_rfl))
          | ((with_reducible refine callK_intro (gid_spec _) (by with_unfolding_all rfl) ?_ ?_); (focus kernel_rfl))
          | ((with_reducible refine callI_spec (gid_spec _) (by with_unfolding_all rfl) ?_ ?_ ?_); (focus kernel_rfl); (focus kernel_rfl))
          | ((with_reducible refine callK_intro (gspan_spec _ _) (by with_unfolding_all rfl) ?_ ?_); (focus kernel_rfl))
          | ((with_reducible refine callI_spec (gspan_spec _ _) (by with_unfolding_all rfl) ?_ ?_ ?_); (focus kernel_rfl); (focus kernel_rfl))
          | ((with_reducible refine callK_intro (gk1_spec _ _) (by with_unfolding_all rfl) ?_ ?_); (focus kernel_rfl))
          | ((with_reducible refine callI_spec (gk1_spec _ _) (by with_unfolding_all rfl) ?_ ?_ ?_); (focus kernel_rfl); (focus kernel_rfl))
          | ((with_reducible refine callK_intro (gk2_spec _ _) (by with_unfolding_all rfl) ?_ ?_); (focus kernel_rfl))
          | ((with_reducible refine callI_spec (gk2_spec _ _) (by with_unfolding_all rfl) ?_ ?_ ?_); (focus kernel_rfl); (focus kernel_rfl))
          | ((with_reducible refine callK_intro (gk3_spec _ _) (by with_unfolding_all rfl) ?_ ?_); (focus kernel_rfl))
          | ((with_reducible refine callI_spec (gk3_spec _ _) (by with_unfolding_all rfl) ?_ ?_ ?_); (focus kernel_rfl); (focus kernel_rfl))
          | (with_reducible refine aw_label ?_)
          | ((with_reducible refine aw_rfM ?_ ?_); (focus kernel_rfl))
          | (with_reducible refine aw_skip ?_)
          | (with_reducible refine aw_exit ?_)
          | ((with_reducible refine aw_condM ?_ ?_); (focus kernel_rfl))
          | (with_reducible refine aw_ret ?_)
        ); simp only [↓rwp.eq_def, ↓sop.eq_def, ↓slotK.eq_def, inV, shT, unT, inQ, rfQ, rfEnd, resOf, pickT, setP, ydA, ydQ, rowW, vD, fillV,  ↓gop.eq_def, ↓hop.eq_def, ↓hopH.eq_def, ↓hwp.eq_def, ↓ldV.eq_def, ↓ldK.eq_def, ↓ixK.eq_def, ↓addOff.eq_def, ↓exK.eq_def, ↓notK.eq_def, ↓pickK.eq_def, ↓iop2.eq_def, ↓binK.eq_def, ↓eqop.eq_def, icells, ↓iop.eq_def, ↓cutK.eq_def, ↓lenK.eq_def, ↓lenM.eq_def, tyInt, ↓lookK.eq_def, ↓mpK.eq_def, keyV, allI, fitK, lkM, upM, dlM, kq, ↓cvK.eq_def, ↓mmK.eq_def, ↓biK.eq_def, ↓stK.eq_def, ↓apK.eq_def, ↓apD.eq_def, ↓apS.eq_def, nxt, put, setT, setB, delB, lkT_n, lkT_c, lkB_n, lkB_c, ev, ofC, inT, ofA, ofRet, dV_n, dV_c, getD_enc, toDs_dV, List.head?_cons, List.length_map, Option.toArray_some, Option.toArray_none, Int.toNat_natCast, slOf, TyK.agg, vcells, splice, strip, stripP, gOf, allP, rowV, toDs, toD, toA, toAs, headOps, tailOps, isT, addN, Op.operands, Call.operands, List.map_cons, List.map_nil, List.drop_zero, List.drop_succ_cons, List.take_succ_cons, List.take_zero, List.length_cons, List.length_nil, List.getElem?_cons_zero, List.getElem?_cons_succ, List.getElem?_toArray, Option.bind_some, Option.map_some, Option.map_none, List.append_nil, List.nil_append, List.cons_append, if_true, if_false, reduceIte, Nat.reduceEqDiff, Nat.reduceAdd, Nat.reduceSub, Int.reduceToNat, Nat.reduceLeDiff, Nat.reduceLT, and_false, and_self, Nat.zero_add, Nat.add_zero, reduceCtorEq, Option.getD_some, Option.getD_none, Option.isSome_some, Option.isSome_none, forall_const, true_and, and_true, true_implies, Bool.true_and, Bool.false_and, Bool.and_true, Bool.and_false, Bool.true_or, Bool.false_or, Bool.or_true, Bool.or_false, beq_self_eq_true, zipM, zcells, Value.cells, Value.oneCell', List.toList_toArray, Array.toList_append, Bool.not_not, List.cons.injEq, Int.reduceEq, eq_self, false_and, Bool.not_true, Bool.not_false, ne_eq, not_false_eq_true, imp_self, implies_true, av_bt, av_bf, av_and, av_or, av_nf, av_tt, av_n1, av_n2, av_t1, av_tp, retQ, retL, resV, RetV, RetOk, SubL, entD_len, entD_take, entD_hd, entD_ln, entD_ic, entD_d1, entD_d2, entD_d3, entD_d4, entD_d5, entD_d6, entD_d7, ty_39, ty_3, ty_22, ty_89, ty_87, kindsD, fnD]; try simp (disch := omega) only [av_w, av_t1, av_tp, Int.toNat_natCast]))
    all_goals (refine Sub.of_eq (congrArg aI ?_); simp only [err1, validE, fitsB, Int.reduceEq, reduceIte, or_true, true_or, or_false, false_or]; grind)
  by_cases h2 : x.kind = 2
  · cases x
    simp only at h2
    subst h2
    repeat' (first
      | (with_reducible refine aw_seq ?_)
      | ((with_reducible refine twoG_intro ?_ ?_) <;> intro hTw <;> first | (exact Bool.noConfusion hTw) | ((try simp only [hTw, Bool.not_true, Bool.not_false, Bool.true_and, Bool.false_and, Bool.and_true, Bool.and_false, Bool.true_or, Bool.false_or, Bool.or_true, Bool.or_false]); (first | (guard_hyp hTw : true = true; clear hTw) | (guard_hyp hTw : false = false; clear hTw) | (revert hTw; intro _))))
      | ((with_reducible refine two_intro ?_ ?_) <;> intro hTw <;> first | (exact Bool.noConfusion hTw) | ((first | (guard_hyp hTw : true = true; clear hTw) | (guard_hyp hTw : false = false; clear hTw) | (revert hTw; intro _))))
      | ((with_reducible refine And.intro ?_ ?_); (focus (first | exact keyOk_int_ | omega | rfl | decide | grind)))
      | (with_reducible refine aw_block ?_)
      | (with_reducible refine aw_scope ?_)
      | ((first
          | ((with_reducible refine aw_regionA T_ok ?_ ?_); (focus kernel_rfl))
          | ((with_reducible refine aw_drawnA T_ok ?_ ?_ ?_ ?_); (focus kernel_rfl); (focus kernel_rfl); (focus kernel_rfl))
          | ((with_reducible refine callK_intro (gkinds_spec) (by with_unfolding_all rfl) ?_ ?_); (focus kernel_rfl))
          | ((with_reducible refine callI_spec (gkinds_spec) (by with_unfolding_all rfl) ?_ ?_ ?_); (focus kernel_rfl); (focus kernel_rfl))
          | ((with_reducible refine callK_intro (gid_spec _) (by with_unfolding_all rfl) ?_ ?_); (focus kernel_rfl))
          | ((with_reducible refine callI_spec (gid_spec _) (by with_unfolding_all rfl) ?_ ?_ ?_); (focus kernel_rfl); (focus kernel_rfl))
          | ((with_reducible refine callK_intro (gspan_spec _ _) (by with_unfolding_all rfl) ?_ ?_); (focus kernel_rfl))
          | ((with_reducible refine callI_spec (gspan_spec _ _) (by with_unfolding_all rfl) ?_ ?_ ?_); (focus kernel_rfl); (focus kernel_rfl))
          | ((with_reducible refine callK_intro (gk1_spec _ _) (by with_unfolding_all rfl) ?_ ?_); (focus kernel_rfl))
          | ((with_reducible refine callI_spec (gk1_spec _ _) (by with_unfolding_all rfl) ?_ ?_ ?_); (focus kernel_rfl); (focus kernel_rfl))
          | ((with_reducible refine callK_intro (gk2_spec _ _) (by with_unfolding_all rfl) ?_ ?_); (focus kernel_rfl))
          | ((with_reducible refine callI_spec (gk2_spec _ _) (by with_unfolding_all rfl) ?_ ?_ ?_); (focus kernel_rfl); (focus kernel_rfl))
          | ((with_reducible refine callK_intro (gk3_spec _ _) (by with_unfolding_all rfl) ?_ ?_); (focus kernel_rfl))
          | ((with_reducible refine callI_spec (gk3_spec _ _) (by with_unfolding_all rfl) ?_ ?_ ?_); (focus kernel_rfl); (focus kernel_rfl))
          | (with_reducible refine aw_label ?_)
          | ((with_reducible refine aw_rfM ?_ ?_); (focus kernel_rfl))
          | (with_reducible refine aw_skip ?_)
          | (with_reducible refine aw_exit ?_)
          | ((with_reducible refine aw_condM ?_ ?_); (focus kernel_rfl))
          | (with_reducible refine aw_ret ?_)
        ); simp only [↓rwp.eq_def, ↓sop.eq_def, ↓slotK.eq_def, inV, shT, unT, inQ, rfQ, rfEnd, resOf, pickT, setP, ydA, ydQ, rowW, vD, fillV,  ↓gop.eq_def, ↓hop.eq_def, ↓hopH.eq_def, ↓hwp.eq_def, ↓ldV.eq_def, ↓ldK.eq_def, ↓ixK.eq_def, ↓addOff.eq_def, ↓exK.eq_def, ↓notK.eq_def, ↓pickK.eq_def, ↓iop2.eq_def, ↓binK.eq_def, ↓eqop.eq_def, icells, ↓iop.eq_def, ↓cutK.eq_def, ↓lenK.eq_def, ↓lenM.eq_def, tyInt, ↓lookK.eq_def, ↓mpK.eq_def, keyV, allI, fitK, lkM, upM, dlM, kq, ↓cvK.eq_def, ↓mmK.eq_def, ↓biK.eq_def, ↓stK.eq_def, ↓apK.eq_def, ↓apD.eq_def, ↓apS.eq_def, nxt, put, setT, setB, delB, lkT_n, lkT_c, lkB_n, lkB_c, ev, ofC, inT, ofA, ofRet, dV_n, dV_c, getD_enc, toDs_dV, List.head?_cons, List.length_map, Option.toArray_some, Option.toArray_none, Int.toNat_natCast, slOf, TyK.agg, vcells, splice, strip, stripP, gOf, allP, rowV, toDs, toD, toA, toAs, headOps, tailOps, isT, addN, Op.operands, Call.operands, List.map_cons, List.map_nil, List.drop_zero, List.drop_succ_cons, List.take_succ_cons, List.take_zero, List.length_cons, List.length_nil, List.getElem?_cons_zero, List.getElem?_cons_succ, List.getElem?_toArray, Option.bind_some, Option.map_some, Option.map_none, List.append_nil, List.nil_append, List.cons_append, if_true, if_false, reduceIte, Nat.reduceEqDiff, Nat.reduceAdd, Nat.reduceSub, Int.reduceToNat, Nat.reduceLeDiff, Nat.reduceLT, and_false, and_self, Nat.zero_add, Nat.add_zero, reduceCtorEq, Option.getD_some, Option.getD_none, Option.isSome_some, Option.isSome_none, forall_const, true_and, and_true, true_implies, Bool.true_and, Bool.false_and, Bool.and_true, Bool.and_false, Bool.true_or, Bool.false_or, Bool.or_true, Bool.or_false, beq_self_eq_true, zipM, zcells, Value.cells, Value.oneCell', List.toList_toArray, Array.toList_append, Bool.not_not, List.cons.injEq, Int.reduceEq, eq_self, false_and, Bool.not_true, Bool.not_false, ne_eq, not_false_eq_true, imp_self, implies_true, av_bt, av_bf, av_and, av_or, av_nf, av_tt, av_n1, av_n2, av_t1, av_tp, retQ, retL, resV, RetV, RetOk, SubL, entD_len, entD_take, entD_hd, entD_ln, entD_ic, entD_d1, entD_d2, entD_d3, entD_d4, entD_d5, entD_d6, entD_d7, ty_39, ty_3, ty_22, ty_89, ty_87, kindsD, fnD]; try simp (disch := omega) only [av_w, av_t1, av_tp, Int.toNat_natCast]))
    all_goals (refine Sub.of_eq (congrArg aI ?_); simp only [err1, validE, fitsB, Int.reduceEq, reduceIte, or_true, true_or, or_false, false_or]; grind)
  by_cases h3 : x.kind = 3
  · cases x
    simp only at h3
    subst h3
    repeat' (first
      | (with_reducible refine aw_seq ?_)
      | ((with_reducible refine twoG_intro ?_ ?_) <;> intro hTw <;> first | (exact Bool.noConfusion hTw) | ((try simp only [hTw, Bool.not_true, Bool.not_false, Bool.true_and, Bool.false_and, Bool.and_true, Bool.and_false, Bool.true_or, Bool.false_or, Bool.or_true, Bool.or_false]); (first | (guard_hyp hTw : true = true; clear hTw) | (guard_hyp hTw : false = false; clear hTw) | (revert hTw; intro _))))
      | ((with_reducible refine two_intro ?_ ?_) <;> intro hTw <;> first | (exact Bool.noConfusion hTw) | ((first | (guard_hyp hTw : true = true; clear hTw) | (guard_hyp hTw : false = false; clear hTw) | (revert hTw; intro _))))
      | ((with_reducible refine And.intro ?_ ?_); (focus (first | exact keyOk_int_ | omega | rfl | decide | grind)))
      | (with_reducible refine aw_block ?_)
      | (with_reducible refine aw_scope ?_)
      | ((first
          | ((with_reducible refine aw_regionA T_ok ?_ ?_); (focus kernel_rfl))
          | ((with_reducible refine aw_drawnA T_ok ?_ ?_ ?_ ?_); (focus kernel_rfl); (focus kernel_rfl); (focus kernel_rfl))
          | ((with_reducible refine callK_intro (gkinds_spec) (by with_unfolding_all rfl) ?_ ?_); (focus kernel_rfl))
          | ((with_reducible refine callI_spec (gkinds_spec) (by with_unfolding_all rfl) ?_ ?_ ?_); (focus kernel_rfl); (focus kernel_rfl))
          | ((with_reducible refine callK_intro (gid_spec _) (by with_unfolding_all rfl) ?_ ?_); (focus kernel_rfl))
          | ((with_reducible refine callI_spec (gid_spec _) (by with_unfolding_all rfl) ?_ ?_ ?_); (focus kernel_rfl); (focus kernel_rfl))
          | ((with_reducible refine callK_intro (gspan_spec _ _) (by with_unfolding_all rfl) ?_ ?_); (focus kernel_rfl))
          | ((with_reducible refine callI_spec (gspan_spec _ _) (by with_unfolding_all rfl) ?_ ?_ ?_); (focus kernel_rfl); (focus kernel_rfl))
          | ((with_reducible refine callK_intro (gk1_spec _ _) (by with_unfolding_all rfl) ?_ ?_); (focus kernel_rfl))
          | ((with_reducible refine callI_spec (gk1_spec _ _) (by with_unfolding_all rfl) ?_ ?_ ?_); (focus kernel_rfl); (focus kernel_rfl))
          | ((with_reducible refine callK_intro (gk2_spec _ _) (by with_unfolding_all rfl) ?_ ?_); (focus kernel_rfl))
          | ((with_reducible refine callI_spec (gk2_spec _ _) (by with_unfolding_all rfl) ?_ ?_ ?_); (focus kernel_rfl); (focus kernel_rfl))
          | ((with_reducible refine callK_intro (gk3_spec _ _) (by with_unfolding_all rfl) ?_ ?_); (focus kernel_rfl))
          | ((with_reducible refine callI_spec (gk3_spec _ _) (by with_unfolding_all rfl) ?_ ?_ ?_); (focus kernel_rfl); (focus kernel_rfl))
          | (with_reducible refine aw_label ?_)
          | ((with_reducible refine aw_rfM ?_ ?_); (focus kernel_rfl))
          | (with_reducible refine aw_skip ?_)
          | (with_reducible refine aw_exit ?_)
          | ((with_reducible refine aw_condM ?_ ?_); (focus kernel_rfl))
          | (with_reducible refine aw_ret ?_)
        ); simp only [↓rwp.eq_def, ↓sop.eq_def, ↓slotK.eq_def, inV, shT, unT, inQ, rfQ, rfEnd, resOf, pickT, setP, ydA, ydQ, rowW, vD, fillV,  ↓gop.eq_def, ↓hop.eq_def, ↓hopH.eq_def, ↓hwp.eq_def, ↓ldV.eq_def, ↓ldK.eq_def, ↓ixK.eq_def, ↓addOff.eq_def, ↓exK.eq_def, ↓notK.eq_def, ↓pickK.eq_def, ↓iop2.eq_def, ↓binK.eq_def, ↓eqop.eq_def, icells, ↓iop.eq_def, ↓cutK.eq_def, ↓lenK.eq_def, ↓lenM.eq_def, tyInt, ↓lookK.eq_def, ↓mpK.eq_def, keyV, allI, fitK, lkM, upM, dlM, kq, ↓cvK.eq_def, ↓mmK.eq_def, ↓biK.eq_def, ↓stK.eq_def, ↓apK.eq_def, ↓apD.eq_def, ↓apS.eq_def, nxt, put, setT, setB, delB, lkT_n, lkT_c, lkB_n, lkB_c, ev, ofC, inT, ofA, ofRet, dV_n, dV_c, getD_enc, toDs_dV, List.head?_cons, List.length_map, Option.toArray_some, Option.toArray_none, Int.toNat_natCast, slOf, TyK.agg, vcells, splice, strip, stripP, gOf, allP, rowV, toDs, toD, toA, toAs, headOps, tailOps, isT, addN, Op.operands, Call.operands, List.map_cons, List.map_nil, List.drop_zero, List.drop_succ_cons, List.take_succ_cons, List.take_zero, List.length_cons, List.length_nil, List.getElem?_cons_zero, List.getElem?_cons_succ, List.getElem?_toArray, Option.bind_some, Option.map_some, Option.map_none, List.append_nil, List.nil_append, List.cons_append, if_true, if_false, reduceIte, Nat.reduceEqDiff, Nat.reduceAdd, Nat.reduceSub, Int.reduceToNat, Nat.reduceLeDiff, Nat.reduceLT, and_false, and_self, Nat.zero_add, Nat.add_zero, reduceCtorEq, Option.getD_some, Option.getD_none, Option.isSome_some, Option.isSome_none, forall_const, true_and, and_true, true_implies, Bool.true_and, Bool.false_and, Bool.and_true, Bool.and_false, Bool.true_or, Bool.false_or, Bool.or_true, Bool.or_false, beq_self_eq_true, zipM, zcells, Value.cells, Value.oneCell', List.toList_toArray, Array.toList_append, Bool.not_not, List.cons.injEq, Int.reduceEq, eq_self, false_and, Bool.not_true, Bool.not_false, ne_eq, not_false_eq_true, imp_self, implies_true, av_bt, av_bf, av_and, av_or, av_nf, av_tt, av_n1, av_n2, av_t1, av_tp, retQ, retL, resV, RetV, RetOk, SubL, entD_len, entD_take, entD_hd, entD_ln, entD_ic, entD_d1, entD_d2, entD_d3, entD_d4, entD_d5, entD_d6, entD_d7, ty_39, ty_3, ty_22, ty_89, ty_87, kindsD, fnD]; try simp (disch := omega) only [av_w, av_t1, av_tp, Int.toNat_natCast]))
    all_goals (refine Sub.of_eq (congrArg aI ?_); simp only [err1, validE, fitsB, Int.reduceEq, reduceIte, or_true, true_or, or_false, false_or]; grind)
  by_cases h4 : x.kind = 4
  · cases x
    simp only at h4
    subst h4
    repeat' (first
      | (with_reducible refine aw_seq ?_)
      | ((with_reducible refine twoG_intro ?_ ?_) <;> intro hTw <;> first | (exact Bool.noConfusion hTw) | ((try simp only [hTw, Bool.not_true, Bool.not_false, Bool.true_and, Bool.false_and, Bool.and_true, Bool.and_false, Bool.true_or, Bool.false_or, Bool.or_true, Bool.or_false]); (first | (guard_hyp hTw : true = true; clear hTw) | (guard_hyp hTw : false = false; clear hTw) | (revert hTw; intro _))))
      | ((with_reducible refine two_intro ?_ ?_) <;> intro hTw <;> first | (exact Bool.noConfusion hTw) | ((first | (guard_hyp hTw : true = true; clear hTw) | (guard_hyp hTw : false = false; clear hTw) | (revert hTw; intro _))))
      | ((with_reducible refine And.intro ?_ ?_); (focus (first | exact keyOk_int_ | omega | rfl | decide | grind)))
      | (with_reducible refine aw_block ?_)
      | (with_reducible refine aw_scope ?_)
      | ((first
          | ((with_reducible refine aw_regionA T_ok ?_ ?_); (focus kernel_rfl))
          | ((with_reducible refine aw_drawnA T_ok ?_ ?_ ?_ ?_); (focus kernel_rfl); (focus kernel_rfl); (focus kernel_rfl))
          | ((with_reducible refine callK_intro (gkinds_spec) (by with_unfolding_all rfl) ?_ ?_); (focus kernel_rfl))
          | ((with_reducible refine callI_spec (gkinds_spec) (by with_unfolding_all rfl) ?_ ?_ ?_); (focus kernel_rfl); (focus kernel_rfl))
          | ((with_reducible refine callK_intro (gid_spec _) (by with_unfolding_all rfl) ?_ ?_); (focus kernel_rfl))
          | ((with_reducible refine callI_spec (gid_spec _) (by with_unfolding_all rfl) ?_ ?_ ?_); (focus kernel_rfl); (focus kernel_rfl))
          | ((with_reducible refine callK_intro (gspan_spec _ _) (by with_unfolding_all rfl) ?_ ?_); (focus kernel_rfl))
          | ((with_reducible refine callI_spec (gspan_spec _ _) (by with_unfolding_all rfl) ?_ ?_ ?_); (focus kernel_rfl); (focus kernel_rfl))
          | ((with_reducible refine callK_intro (gk1_spec _ _) (by with_unfolding_all rfl) ?_ ?_); (focus kernel_rfl))
          | ((with_reducible refine callI_spec (gk1_spec _ _) (by with_unfolding_all rfl) ?_ ?_ ?_); (focus kernel_rfl); (focus kernel_rfl))
          | ((with_reducible refine callK_intro (gk2_spec _ _) (by with_unfolding_all rfl) ?_ ?_); (focus kernel_rfl))
          | ((with_reducible refine callI_spec (gk2_spec _ _) (by with_unfolding_all rfl) ?_ ?_ ?_); (focus kernel_rfl); (focus kernel_rfl))
          | ((with_reducible refine callK_intro (gk3_spec _ _) (by with_unfolding_all rfl) ?_ ?_); (focus kernel_rfl))
          | ((with_reducible refine callI_spec (gk3_spec _ _) (by with_unfolding_all rfl) ?_ ?_ ?_); (focus kernel_rfl); (focus kernel_rfl))
          | (with_reducible refine aw_label ?_)
          | ((with_reducible refine aw_rfM ?_ ?_); (focus kernel_rfl))
          | (with_reducible refine aw_skip ?_)
          | (with_reducible refine aw_exit ?_)
          | ((with_reducible refine aw_condM ?_ ?_); (focus kernel_rfl))
          | (with_reducible refine aw_ret ?_)
        ); simp only [↓rwp.eq_def, ↓sop.eq_def, ↓slotK.eq_def, inV, shT, unT, inQ, rfQ, rfEnd, resOf, pickT, setP, ydA, ydQ, rowW, vD, fillV,  ↓gop.eq_def, ↓hop.eq_def, ↓hopH.eq_def, ↓hwp.eq_def, ↓ldV.eq_def, ↓ldK.eq_def, ↓ixK.eq_def, ↓addOff.eq_def, ↓exK.eq_def, ↓notK.eq_def, ↓pickK.eq_def, ↓iop2.eq_def, ↓binK.eq_def, ↓eqop.eq_def, icells, ↓iop.eq_def, ↓cutK.eq_def, ↓lenK.eq_def, ↓lenM.eq_def, tyInt, ↓lookK.eq_def, ↓mpK.eq_def, keyV, allI, fitK, lkM, upM, dlM, kq, ↓cvK.eq_def, ↓mmK.eq_def, ↓biK.eq_def, ↓stK.eq_def, ↓apK.eq_def, ↓apD.eq_def, ↓apS.eq_def, nxt, put, setT, setB, delB, lkT_n, lkT_c, lkB_n, lkB_c, ev, ofC, inT, ofA, ofRet, dV_n, dV_c, getD_enc, toDs_dV, List.head?_cons, List.length_map, Option.toArray_some, Option.toArray_none, Int.toNat_natCast, slOf, TyK.agg, vcells, splice, strip, stripP, gOf, allP, rowV, toDs, toD, toA, toAs, headOps, tailOps, isT, addN, Op.operands, Call.operands, List.map_cons, List.map_nil, List.drop_zero, List.drop_succ_cons, List.take_succ_cons, List.take_zero, List.length_cons, List.length_nil, List.getElem?_cons_zero, List.getElem?_cons_succ, List.getElem?_toArray, Option.bind_some, Option.map_some, Option.map_none, List.append_nil, List.nil_append, List.cons_append, if_true, if_false, reduceIte, Nat.reduceEqDiff, Nat.reduceAdd, Nat.reduceSub, Int.reduceToNat, Nat.reduceLeDiff, Nat.reduceLT, and_false, and_self, Nat.zero_add, Nat.add_zero, reduceCtorEq, Option.getD_some, Option.getD_none, Option.isSome_some, Option.isSome_none, forall_const, true_and, and_true, true_implies, Bool.true_and, Bool.false_and, Bool.and_true, Bool.and_false, Bool.true_or, Bool.false_or, Bool.or_true, Bool.or_false, beq_self_eq_true, zipM, zcells, Value.cells, Value.oneCell', List.toList_toArray, Array.toList_append, Bool.not_not, List.cons.injEq, Int.reduceEq, eq_self, false_and, Bool.not_true, Bool.not_false, ne_eq, not_false_eq_true, imp_self, implies_true, av_bt, av_bf, av_and, av_or, av_nf, av_tt, av_n1, av_n2, av_t1, av_tp, retQ, retL, resV, RetV, RetOk, SubL, entD_len, entD_take, entD_hd, entD_ln, entD_ic, entD_d1, entD_d2, entD_d3, entD_d4, entD_d5, entD_d6, entD_d7, ty_39, ty_3, ty_22, ty_89, ty_87, kindsD, fnD]; try simp (disch := omega) only [av_w, av_t1, av_tp, Int.toNat_natCast]))
    all_goals (refine Sub.of_eq (congrArg aI ?_); simp only [err1, validE, fitsB, Int.reduceEq, reduceIte, or_true, true_or, or_false, false_or]; grind)
  have hx : -9223372036854775808 ≤ x.kind ∧ x.kind ≤ 9223372036854775807 := hx
  repeat' (first
    | (with_reducible refine aw_seq ?_)
    | ((with_reducible refine twoG_intro ?_ ?_) <;> intro hTw <;> first | (exact Bool.noConfusion hTw) | ((try simp only [hTw, Bool.not_true, Bool.not_false, Bool.true_and, Bool.false_and, Bool.and_true, Bool.and_false, Bool.true_or, Bool.false_or, Bool.or_true, Bool.or_false]); (first | (guard_hyp hTw : true = true; clear hTw) | (guard_hyp hTw : false = false; clear hTw) | (revert hTw; intro _))))
    | ((with_reducible refine two_intro ?_ ?_) <;> intro hTw <;> first | (exact Bool.noConfusion hTw) | ((first | (guard_hyp hTw : true = true; clear hTw) | (guard_hyp hTw : false = false; clear hTw) | (revert hTw; intro _))))
    | ((with_reducible refine And.intro ?_ ?_); (focus (first | exact keyOk_int_ | omega | rfl | decide | grind)))
    | (with_reducible refine aw_block ?_)
    | (with_reducible refine aw_scope ?_)
    | ((first
        | ((with_reducible refine aw_regionA T_ok ?_ ?_); (focus kernel_rfl))
        | ((with_reducible refine aw_drawnA T_ok ?_ ?_ ?_ ?_); (focus kernel_rfl); (focus kernel_rfl); (focus kernel_rfl))
        | ((with_reducible refine callK_intro (gkinds_spec) (by with_unfolding_all rfl) ?_ ?_); (focus kernel_rfl))
        | ((with_reducible refine callI_spec (gkinds_spec) (by with_unfolding_all rfl) ?_ ?_ ?_); (focus kernel_rfl); (focus kernel_rfl))
        | ((with_reducible refine callK_intro (gid_spec _) (by with_unfolding_all rfl) ?_ ?_); (focus kernel_rfl))
        | ((with_reducible refine callI_spec (gid_spec _) (by with_unfolding_all rfl) ?_ ?_ ?_); (focus kernel_rfl); (focus kernel_rfl))
        | ((with_reducible refine callK_intro (gspan_spec _ _) (by with_unfolding_all rfl) ?_ ?_); (focus kernel_rfl))
        | ((with_reducible refine callI_spec (gspan_spec _ _) (by with_unfolding_all rfl) ?_ ?_ ?_); (focus kernel_rfl); (focus kernel_rfl))
        | (with_reducible refine aw_label ?_)
        | ((with_reducible refine aw_rfM ?_ ?_); (focus kernel_rfl))
        | (with_reducible refine aw_skip ?_)
        | (with_reducible refine aw_exit ?_)
        | ((with_reducible refine aw_condM ?_ ?_); (focus kernel_rfl))
        | (with_reducible refine aw_ret ?_)
      ); simp only [↓rwp.eq_def, ↓sop.eq_def, ↓slotK.eq_def, inV, shT, unT, inQ, rfQ, rfEnd, resOf, pickT, setP, ydA, ydQ, rowW, vD, fillV,  ↓gop.eq_def, ↓hop.eq_def, ↓hopH.eq_def, ↓hwp.eq_def, ↓ldV.eq_def, ↓ldK.eq_def, ↓ixK.eq_def, ↓addOff.eq_def, ↓exK.eq_def, ↓notK.eq_def, ↓pickK.eq_def, ↓iop2.eq_def, ↓binK.eq_def, ↓eqop.eq_def, icells, ↓iop.eq_def, ↓cutK.eq_def, ↓lenK.eq_def, ↓lenM.eq_def, tyInt, ↓lookK.eq_def, ↓mpK.eq_def, keyV, allI, fitK, lkM, upM, dlM, kq, ↓cvK.eq_def, ↓mmK.eq_def, ↓biK.eq_def, ↓stK.eq_def, ↓apK.eq_def, ↓apD.eq_def, ↓apS.eq_def, nxt, put, setT, setB, delB, lkT_n, lkT_c, lkB_n, lkB_c, ev, ofC, inT, ofA, ofRet, dV_n, dV_c, getD_enc, toDs_dV, List.head?_cons, List.length_map, Option.toArray_some, Option.toArray_none, Int.toNat_natCast, slOf, TyK.agg, vcells, splice, strip, stripP, gOf, allP, rowV, toDs, toD, toA, toAs, headOps, tailOps, isT, addN, Op.operands, Call.operands, List.map_cons, List.map_nil, List.drop_zero, List.drop_succ_cons, List.take_succ_cons, List.take_zero, List.length_cons, List.length_nil, List.getElem?_cons_zero, List.getElem?_cons_succ, List.getElem?_toArray, Option.bind_some, Option.map_some, Option.map_none, List.append_nil, List.nil_append, List.cons_append, if_true, if_false, reduceIte, Nat.reduceEqDiff, Nat.reduceAdd, Nat.reduceSub, Int.reduceToNat, Nat.reduceLeDiff, Nat.reduceLT, and_false, and_self, Nat.zero_add, Nat.add_zero, reduceCtorEq, Option.getD_some, Option.getD_none, Option.isSome_some, Option.isSome_none, forall_const, true_and, and_true, true_implies, Bool.true_and, Bool.false_and, Bool.and_true, Bool.and_false, Bool.true_or, Bool.false_or, Bool.or_true, Bool.or_false, beq_self_eq_true, zipM, zcells, Value.cells, Value.oneCell', List.toList_toArray, Array.toList_append, Bool.not_not, List.cons.injEq, Int.reduceEq, eq_self, false_and, Bool.not_true, Bool.not_false, ne_eq, not_false_eq_true, imp_self, implies_true, av_bt, av_bf, av_and, av_or, av_nf, av_tt, av_n1, av_n2, av_t1, av_tp, retQ, retL, resV, RetV, RetOk, SubL, entD_len, entD_take, entD_hd, entD_ln, entD_ic, entD_d1, entD_d2, entD_d3, entD_d4, entD_d5, entD_d6, entD_d7, ty_39, ty_3, ty_22, ty_89, ty_87, kindsD, fnD, h1, h2, h3, h4]; try simp (disch := omega) only [av_w, av_t1, av_tp, Int.toNat_natCast]))
  · refine Sub.of_eq (congrArg aI ?_)
    simp only [err1, validE, fitsB, h1, h2, h3, h4]
    grind
end Go.Proofs.Ytfmefdeldgmhpaa

namespace Go.Proofs.Ytfmefdeldgmhpaa
set_option linter.unusedSimpArgs false
set_option linter.unusedVariables false
open Go.RowKit
set_option maxRecDepth 100000
set_option maxHeartbeats 4000000
theorem gcheck_spec (l : List Ent) (hl : l.length ≤ 140737488351232) (hk : ∀ k, i64 (l.getD k default).kind) : Spec Try.prog 28 [aEs l] (.r1 (aI (checkL l))) := by
  refine spec_of T_ok Try.func28 (by dsimp only [Try.f28]) rfl rfl (by simp) fun w F => ?_
  repeat' (first
    | (with_reducible refine aw_seq ?_)
    | ((with_reducible refine twoG_intro ?_ ?_) <;> intro hTw <;> first | (exact Bool.noConfusion hTw) | ((try simp only [hTw, Bool.not_true, Bool.not_false, Bool.true_and, Bool.false_and, Bool.and_true, Bool.and_false, Bool.true_or, Bool.false_or, Bool.or_true, Bool.or_false]); (first | (guard_hyp hTw : true = true; clear hTw) | (guard_hyp hTw : false = false; clear hTw) | (revert hTw; intro _))))
    | ((with_reducible refine two_intro ?_ ?_) <;> intro hTw <;> first | (exact Bool.noConfusion hTw) | ((first | (guard_hyp hTw : true = true; clear hTw) | (guard_hyp hTw : false = false; clear hTw) | (revert hTw; intro _))))
    | ((with_reducible refine And.intro ?_ ?_); (focus (first | exact keyOk_int_ | omega | rfl | decide | grind)))
    | (with_reducible refine aw_block ?_)
    | (with_reducible refine aw_scope ?_)
    | ((first
        | ((with_reducible refine aw_regionA T_ok ?_ ?_); (focus kernel_rfl))
        | ((with_reducible refine aw_drawnA T_ok ?_ ?_ ?_ ?_); (focus kernel_rfl); (focus kernel_rfl); (focus kernel_rfl))
        | ((with_reducible refine callK_intro (gcheck1_spec _ (hk _)) (by with_unfolding_all rfl) ?_ ?_); (focus kernel_rfl))
        | ((with_reducible refine callI_spec (gcheck1_spec _ (hk _)) (by with_unfolding_all rfl) ?_ ?_ ?_); (focus kernel_rfl); (focus kernel_rfl))
        | (with_reducible refine aw_label ?_)
        | ((with_reducible refine aw_rfM ?_ ?_); (focus kernel_rfl))
        | (with_reducible refine aw_skip ?_)
        | (with_reducible refine aw_exit ?_)
        | ((with_reducible refine aw_condM ?_ ?_); (focus kernel_rfl))
        | (with_reducible refine aw_ret ?_)
      ); simp only [↓rwp.eq_def, ↓sop.eq_def, ↓slotK.eq_def, inV, shT, unT, inQ, rfQ, rfEnd, resOf, pickT, setP, ydA, ydQ, rowW, vD, fillV,  ↓gop.eq_def, ↓hop.eq_def, ↓hopH.eq_def, ↓hwp.eq_def, ↓ldV.eq_def, ↓ldK.eq_def, ↓ixK.eq_def, ↓addOff.eq_def, ↓exK.eq_def, ↓notK.eq_def, ↓pickK.eq_def, ↓iop2.eq_def, ↓binK.eq_def, ↓eqop.eq_def, icells, ↓iop.eq_def, ↓cutK.eq_def, ↓lenK.eq_def, ↓lenM.eq_def, tyInt, ↓lookK.eq_def, ↓mpK.eq_def, keyV, allI, fitK, lkM, upM, dlM, kq, ↓cvK.eq_def, ↓mmK.eq_def, ↓biK.eq_def, ↓stK.eq_def, ↓apK.eq_def, ↓apD.eq_def, ↓apS.eq_def, nxt, put, setT, setB, delB, lkT_n, lkT_c, lkB_n, lkB_c, ev, ofC, inT, ofA, ofRet, dV_n, dV_c, getD_enc, toDs_dV, List.head?_cons, List.length_map, Option.toArray_some, Option.toArray_none, Int.toNat_natCast, slOf, TyK.agg, vcells, splice, strip, stripP, gOf, allP, rowV, toDs, toD, toA, toAs, headOps, tailOps, isT, addN, Op.operands, Call.operands, List.map_cons, List.map_nil, List.drop_zero, List.drop_succ_cons, List.take_succ_cons, List.take_zero, List.length_cons, List.length_nil, List.getElem?_cons_zero, List.getElem?_cons_succ, List.getElem?_toArray, Option.bind_some, Option.map_some, Option.map_none, List.append_nil, List.nil_append, List.cons_append, if_true, if_false, reduceIte, Nat.reduceEqDiff, Nat.reduceAdd, Nat.reduceSub, Int.reduceToNat, Nat.reduceLeDiff, Nat.reduceLT, and_false, and_self, Nat.zero_add, Nat.add_zero, reduceCtorEq, Option.getD_some, Option.getD_none, Option.isSome_some, Option.isSome_none, forall_const, true_and, and_true, true_implies, Bool.true_and, Bool.false_and, Bool.and_true, Bool.and_false, Bool.true_or, Bool.false_or, Bool.or_true, Bool.or_false, beq_self_eq_true, zipM, zcells, Value.cells, Value.oneCell', List.toList_toArray, Array.toList_append, Bool.not_not, List.cons.injEq, Int.reduceEq, eq_self, false_and, Bool.not_true, Bool.not_false, ne_eq, not_false_eq_true, imp_self, implies_true, av_bt, av_bf, av_and, av_or, av_nf, av_tt, av_n1, av_n2, av_t1, av_tp, retQ, retL, resV, RetV, RetOk, SubL, entD_len, entD_take, entD_hd, entD_ln, entD_ic, entD_d1, entD_d2, entD_d3, entD_d4, entD_d5, entD_d6, entD_d7, ty_39, ty_3, ty_22, ty_89, ty_87]; try simp (disch := omega) only [av_w, av_t1, av_tp, Int.toNat_natCast]))
  · rename_i h
    exact Sub.of_eq (congrArg aI (by simp at h; rw [checkL, if_pos (by omega)]))
  rename_i h
  refine aw_loopI (fun k : Nat => ⟨[(3, vI (lastAt l k)), (10, vEs l), (11, vI l.length), (12, vI k)], [], 0⟩) (fun k => k ≤ l.length ∧ goodL (-1) l = goodL (lastAt l k) (l.drop k)) (fun k => l.length - k) 0 ⟨Nat.zero_le _, rfl⟩ (wk_of [] rfl rfl ?_ ?_) ?_
  · simp only [wkT, wkB, wkB1, subV, subVs, subD, subB, lkN_n, lkN_c, lkT_n, lkT_c, lkB_n, lkB_c, if_true, if_false, reduceIte, Nat.reduceEqDiff, true_and, and_true, and_self, inT, ofA]
    (repeat' (first | exact trivial | rfl | exact rfl | refine And.intro ?_ ?_))
  · simp only [wkT, wkB, wkB1, subV, subVs, subD, subB, lkN_n, lkN_c, lkT_n, lkT_c, lkB_n, lkB_c, if_true, if_false, reduceIte, Nat.reduceEqDiff, true_and, and_true, and_self, inT, ofA]
  rintro k ⟨hk', hg⟩
  repeat' (first
    | (with_reducible refine aw_seq ?_)
    | ((with_reducible refine twoG_intro ?_ ?_) <;> intro hTw <;> first | (exact Bool.noConfusion hTw) | ((try simp only [hTw, Bool.not_true, Bool.not_false, Bool.true_and, Bool.false_and, Bool.and_true, Bool.and_false, Bool.true_or, Bool.false_or, Bool.or_true, Bool.or_false]); (first | (guard_hyp hTw : true = true; clear hTw) | (guard_hyp hTw : false = false; clear hTw) | (revert hTw; intro _))))
    | ((with_reducible refine two_intro ?_ ?_) <;> intro hTw <;> first | (exact Bool.noConfusion hTw) | ((first | (guard_hyp hTw : true = true; clear hTw) | (guard_hyp hTw : false = false; clear hTw) | (revert hTw; intro _))))
    | ((with_reducible refine And.intro ?_ ?_); (focus (first | exact keyOk_int_ | omega | rfl | decide | grind)))
    | (with_reducible refine aw_block ?_)
    | (with_reducible refine aw_scope ?_)
    | ((first
        | ((with_reducible refine aw_regionA T_ok ?_ ?_); (focus kernel_rfl))
        | ((with_reducible refine aw_drawnA T_ok ?_ ?_ ?_ ?_); (focus kernel_rfl); (focus kernel_rfl); (focus kernel_rfl))
        | ((with_reducible refine callK_intro (gcheck1_spec _ (hk _)) (by with_unfolding_all rfl) ?_ ?_); (focus kernel_rfl))
        | ((with_reducible refine callI_spec (gcheck1_spec _ (hk _)) (by with_unfolding_all rfl) ?_ ?_ ?_); (focus kernel_rfl); (focus kernel_rfl))
        | (with_reducible refine aw_label ?_)
        | ((with_reducible refine aw_rfM ?_ ?_); (focus kernel_rfl))
        | (with_reducible refine aw_skip ?_)
        | (with_reducible refine aw_exit ?_)
        | ((with_reducible refine aw_condM ?_ ?_); (focus kernel_rfl))
        | (with_reducible refine aw_ret ?_)
      ); simp only [↓rwp.eq_def, ↓sop.eq_def, ↓slotK.eq_def, inV, shT, unT, inQ, rfQ, rfEnd, resOf, pickT, setP, ydA, ydQ, rowW, vD, fillV,  ↓gop.eq_def, ↓hop.eq_def, ↓hopH.eq_def, ↓hwp.eq_def, ↓ldV.eq_def, ↓ldK.eq_def, ↓ixK.eq_def, ↓addOff.eq_def, ↓exK.eq_def, ↓notK.eq_def, ↓pickK.eq_def, ↓iop2.eq_def, ↓binK.eq_def, ↓eqop.eq_def, icells, ↓iop.eq_def, ↓cutK.eq_def, ↓lenK.eq_def, ↓lenM.eq_def, tyInt, ↓lookK.eq_def, ↓mpK.eq_def, keyV, allI, fitK, lkM, upM, dlM, kq, ↓cvK.eq_def, ↓mmK.eq_def, ↓biK.eq_def, ↓stK.eq_def, ↓apK.eq_def, ↓apD.eq_def, ↓apS.eq_def, nxt, put, setT, setB, delB, lkT_n, lkT_c, lkB_n, lkB_c, ev, ofC, inT, ofA, ofRet, dV_n, dV_c, getD_enc, toDs_dV, List.head?_cons, List.length_map, Option.toArray_some, Option.toArray_none, Int.toNat_natCast, slOf, TyK.agg, vcells, splice, strip, stripP, gOf, allP, rowV, toDs, toD, toA, toAs, headOps, tailOps, isT, addN, Op.operands, Call.operands, List.map_cons, List.map_nil, List.drop_zero, List.drop_succ_cons, List.take_succ_cons, List.take_zero, List.length_cons, List.length_nil, List.getElem?_cons_zero, List.getElem?_cons_succ, List.getElem?_toArray, Option.bind_some, Option.map_some, Option.map_none, List.append_nil, List.nil_append, List.cons_append, if_true, if_false, reduceIte, Nat.reduceEqDiff, Nat.reduceAdd, Nat.reduceSub, Int.reduceToNat, Nat.reduceLeDiff, Nat.reduceLT, and_false, and_self, Nat.zero_add, Nat.add_zero, reduceCtorEq, Option.getD_some, Option.getD_none, Option.isSome_some, Option.isSome_none, forall_const, true_and, and_true, true_implies, Bool.true_and, Bool.false_and, Bool.and_true, Bool.and_false, Bool.true_or, Bool.false_or, Bool.or_true, Bool.or_false, beq_self_eq_true, zipM, zcells, Value.cells, Value.oneCell', List.toList_toArray, Array.toList_append, Bool.not_not, List.cons.injEq, Int.reduceEq, eq_self, false_and, Bool.not_true, Bool.not_false, ne_eq, not_false_eq_true, imp_self, implies_true, av_bt, av_bf, av_and, av_or, av_nf, av_tt, av_n1, av_n2, av_t1, av_tp, retQ, retL, resV, RetV, RetOk, SubL, entD_len, entD_take, entD_hd, entD_ln, entD_ic, entD_d1, entD_d2, entD_d3, entD_d4, entD_d5, entD_d6, entD_d7, ty_39, ty_3, ty_22, ty_89, ty_87]; try simp (disch := omega) only [av_w, av_t1, av_tp, Int.toNat_natCast]))
  · rename_i h1 h2
    have hlt : k < l.length := by simp at h1; omega
    have h0 := validE_no (l.getD k default)
    refine Sub.of_eq (congrArg aI ?_)
    rw [checkL, if_neg (by simp at h; omega), hg, goodL_at l k hlt]
    simp only [lastAt, err1] at *
    grind
  · rename_i h1 h2
    have hlt : k < l.length := by simp at h1; omega
    have h0 := validE_no (l.getD k default)
    refine ⟨k + 1, ⟨by omega, ?_⟩, by dsimp only; omega, wk_of [] rfl rfl ?_ ?_⟩
    · rw [hg, goodL_at l k hlt]
      simp only [lastAt, err1] at *
      grind
    · simp only [wkT, wkB, wkB1, subV, subVs, subD, subB, lkN_n, lkN_c, lkT_n, lkT_c, lkB_n, lkB_c, if_true, if_false, reduceIte, Nat.reduceEqDiff, true_and, and_true, and_self, inT, ofA]
      (repeat' (first | exact trivial | rfl | exact rfl | refine And.intro ?_ ?_))
    · simp only [wkT, wkB, wkB1, subV, subVs, subD, subB, lkN_n, lkN_c, lkT_n, lkT_c, lkB_n, lkB_c, if_true, if_false, reduceIte, Nat.reduceEqDiff, true_and, and_true, and_self, inT, ofA]
  · rename_i h1
    have hk2 : k = l.length := by simp at h1; omega
    subst hk2
    refine Sub.of_eq (congrArg aI ?_)
    rw [checkL, if_neg (by simp at h; omega), hg, List.drop_length, goodL, if_pos rfl]
end Go.Proofs.Ytfmefdeldgmhpaa

namespace Go.Proofs.Ytfmefdeldgmhpaa
set_option linter.unusedVariables false
set_option linter.unusedSimpArgs false
open Go.RowKit
section
variable {α : Type}
abbrev AM (α : Type) := List (List Int × α)
def lkA (c : List Int) : AM α → Option α
  | [] => none
  | (d, x) :: l => if c = d then some x else lkA c l
def upA (c : List Int) (v : α) : AM α → AM α
  | [] => [(c, v)]
  | (d, x) :: l => if c = d then (c, v) :: l else (d, x) :: upA c v l
def dlA (c : List Int) : AM α → AM α
  | [] => []
  | (d, x) :: l => if c = d then l else (d, x) :: dlA c l
def mpV (f : α → V) : AM α → List (List Int × V)
  | [] => []
  | (d, x) :: l => (d, f x) :: mpV f l
theorem mpV_nil (f : α → V) : mpV f [] = [] := rfl
theorem lkM_mpV (f : α → V) (c : List Int) : ∀ m : AM α, lkM c (mpV f m) = (lkA c m).map f
  | [] => rfl
  | (d, x) :: l => by
    simp only [mpV, lkM, lkA]
    split
    · rfl
    · exact lkM_mpV f c l
theorem upM_mpV (f : α → V) (c : List Int) (v : α) : ∀ m : AM α, upM c (f v) (mpV f m) = mpV f (upA c v m)
  | [] => rfl
  | (d, x) :: l => by
    simp only [mpV, upM, upA]
    split
    · rfl
    · rw [mpV, upM_mpV f c v l]
theorem dlM_mpV (f : α → V) (c : List Int) : ∀ m : AM α, dlM c (mpV f m) = mpV f (dlA c m)
  | [] => rfl
  | (d, x) :: l => by
    simp only [mpV, dlM, dlA]
    split
    · rfl
    · rw [mpV, dlM_mpV f c l]
theorem mpV_length (f : α → V) : ∀ m : AM α, (mpV f m).length = m.length
  | [] => rfl
  | (d, x) :: l => by simp only [mpV, List.length_cons, mpV_length f l]
theorem mpV_keys (f : α → V) : ∀ m : AM α, (mpV f m).map (·.1) = m.map (·.1)
  | [] => rfl
  | (d, x) :: l => by simp only [mpV, List.map_cons, mpV_keys f l]
theorem mpV_get (f : α → V) : ∀ (m : AM α) (i : Nat), (mpV f m)[i]? = m[i]?.map fun p => (p.1, f p.2)
  | [], i => by simp [mpV]
  | (d, x) :: l, 0 => by simp [mpV]
  | (d, x) :: l, i + 1 => by simpa [mpV] using mpV_get f l i
theorem zipM_mpV (g : α → D) (f : α → V) (h : ∀ x, vD (g x) = f x) : ∀ m : AM α, zipM (m.map (·.1)) (m.map (fun p => g p.2)) = mpV f m
  | [] => rfl
  | (d, x) :: l => by simp only [List.map_cons, zipM, mpV, h, zipM_mpV g f h l]
theorem lkA_upA (c d : List Int) (v : α) : ∀ m : AM α, lkA c (upA d v m) = if c = d then some v else lkA c m
  | [] => by simp only [upA, lkA]
  | (e, x) :: l => by
    simp only [upA]
    by_cases h : d = e
    · subst h
      rw [if_pos rfl]
      simp only [lkA]
      split <;> rfl
    · rw [if_neg h]
      simp only [lkA, lkA_upA c d v l]
      by_cases h1 : c = e
      · subst h1
        rw [if_pos rfl, if_neg (fun e => h e.symm), if_pos rfl]
      · rw [if_neg h1, if_neg h1]
theorem lkA_mem {c : List Int} {v : α} : ∀ {m : AM α}, lkA c m = some v → (c, v) ∈ m
  | (d, x) :: l, h => by
    simp only [lkA] at h
    split at h
    · rename_i e; cases h; subst e; simp
    · exact List.mem_cons_of_mem _ (lkA_mem h)
theorem lkA_none {c : List Int} : ∀ {m : AM α}, lkA c m = none ↔ c ∉ m.map (·.1)
  | [] => by simp [lkA]
  | (d, x) :: l => by
    simp only [lkA, List.map_cons, List.mem_cons, not_or]
    by_cases h : c = d
    · simp [h]
    · simp only [if_neg h, lkA_none (m := l)]
      exact ⟨fun hh => ⟨h, hh⟩, fun hh => hh.2⟩
theorem subM_mpV {ρ : Ren} {f : α → V} (h : ∀ a, subV ρ (f a) (f a)) : ∀ {m m' : AM α}, m = m' → subM ρ (mpV f m) (mpV f m')
  | [], _, e => by subst e; trivial
  | (d, a) :: m, _, e => by subst e; exact ⟨⟨rfl, h a⟩, subM_mpV h rfl⟩
theorem subVs_dV (ρ : Ren) : ∀ ds : List D, (∀ d ∈ ds, subD d d) → subVs ρ (dV ds) (dV ds)
  | [], _ => by simp only [dV, List.map_nil, subVs]
  | d :: ds, h => by
    have := subVs_dV ρ ds (fun x hx => h x (by simp [hx]))
    simp only [dV, List.map_cons, subVs, subV] at this ⊢
    exact ⟨h d (by simp), this⟩
end
end Go.Proofs.Ytfmefdeldgmhpaa

namespace Go.Proofs.Ytfmefdeldgmhpaa
set_option linter.unusedSimpArgs false
set_option linter.unusedVariables false
open Go.RowKit
def entV (e : Ent) : V := .agg (dV (entD e))
theorem upM_ent (c : List Int) (y : Ent) (m : AM Ent) : upM c (.agg (dV (entD y))) (mpV entV m) = mpV entV (upA c y m) := upM_mpV entV c y m
theorem lkM_ent (c : List Int) (m : AM Ent) : lkM c (mpV entV m) = (lkA c m).map entV := lkM_mpV entV c m
set_option maxRecDepth 100000
set_option maxHeartbeats 4000000
theorem keyOk_pair_ : KeyOk Try.prog 76 (.p 2) := keyOk_pair (e := 3) ⟨Try.underlying76, by kernel_rfl, by kernel_rfl, by kernel_rfl⟩ Try.underlying3 ⟨Try.prog.types.size - 1, by kernel_rfl⟩
theorem eqEnt_ : EqInts Try.prog 39 8 := eqInts_struct (by kernel_rfl) (by kernel_rfl) (by kernel_rfl) (by kernel_rfl) (by kernel_rfl)
def stepM (m : AM Ent) (y : Ent) : AM Ent := match lkA [y.kind, y.a] m with
  | some o => if o.frm ≤ y.frm then upA [y.kind, y.a] y m else m
  | none => upA [y.kind, y.a] y m
def cAt (l : List Ent) (day time : Int) (k : Nat) : List Ent := (l.take k).filter (countsB day time)
theorem cAt_succ (l : List Ent) (day time : Int) (k : Nat) (h : k < l.length) : cAt l day time (k + 1) = cAt l day time k ++ (if countsB day time (l.getD k default) = true then [l.getD k default] else []) := by
  unfold cAt
  rw [List.take_succ_eq_append_getElem h, List.filter_append]
  have : l.getD k default = l[k] := by simp [List.getD, h]
  rw [this]
  congr 1
  simp only [List.filter_cons, List.filter_nil]
def mAt (l : List Ent) (day time : Int) (k : Nat) : AM Ent := (cAt l day time k).foldl stepM []
theorem mAt_succ (l : List Ent) (day time : Int) (k : Nat) (h : k < l.length) : mAt l day time (k + 1) = if countsB day time (l.getD k default) = true then stepM (mAt l day time k) (l.getD k default) else mAt l day time k := by
  unfold mAt
  rw [cAt_succ l day time k h, List.foldl_append]
  split <;> rfl
theorem lkA_last : ∀ (c : List Ent) (m : AM Ent) (m' : KMap), (∀ κ : Int × Int, lkA [κ.1, κ.2] m = m' κ) → ∀ κ : Int × Int, lkA [κ.1, κ.2] (c.foldl stepM m) = c.foldl KMap.put m' κ
  | [], m, m', h, κ => h κ
  | y :: c, m, m', h, κ => by
    refine lkA_last c (stepM m y) (m'.put y) (fun κ => ?_) κ
    have hy := h y.key
    simp only [Ent.key] at hy
    have hup : ∀ κ : Int × Int, lkA [κ.1, κ.2] (upA [y.kind, y.a] y m) = m'.upd y κ := fun κ => by
      rw [lkA_upA]
      unfold KMap.upd
      by_cases hk : κ = y.key
      · rw [if_pos hk, if_pos (by rw [hk]; rfl)]
      · rw [if_neg hk, if_neg (fun e => hk (by
          simp only [List.cons.injEq, and_true] at e
          exact Prod.ext e.1 e.2)), h κ]
    unfold stepM KMap.put
    simp only [Ent.key]
    rw [hy]
    cases m' (y.kind, y.a) with
    | none => exact hup κ
    | some o =>
      by_cases ho : o.frm ≤ y.frm
      · simp only [if_pos ho]; exact hup κ
      · simp only [if_neg ho]; exact h κ
def srcAt (l : List Ent) (day time : Int) (k : Nat) : List Ent := (cAt l day time k).filter (fun y => !oneB y || lkA [y.kind, y.a] (mAt l day time l.length) == some y)
theorem srcAt_succ (l : List Ent) (day time : Int) (k : Nat) (h : k < l.length) : srcAt l day time (k + 1) = srcAt l day time k ++ (if (countsB day time (l.getD k default) && (!oneB (l.getD k default) || lkA [(l.getD k default).kind, (l.getD k default).a] (mAt l day time l.length) == some (l.getD k default))) = true then [l.getD k default] else []) := by
  unfold srcAt
  rw [cAt_succ l day time k h, List.filter_append]
  congr 1
  by_cases hc : countsB day time (l.getD k default) = true
  · rw [if_pos hc, hc, Bool.true_and, List.filter_cons, List.filter_nil]
  · have hc' : countsB day time (l.getD k default) = false := by simpa using hc
    rw [hc']; rfl
theorem srcAt_len (l : List Ent) (day time : Int) (k : Nat) : (srcAt l day time k).length ≤ k := by
  unfold srcAt cAt
  exact Nat.le_trans (List.length_filter_le _ _) (Nat.le_trans (List.length_filter_le _ _) (List.length_take_le _ _))
theorem srcAt_all (l : List Ent) (day time : Int) : srcAt l day time l.length = standSrc day time l := by
  unfold srcAt standSrc
  have hc : cAt l day time l.length = l.filter (countsB day time) := by rw [cAt, List.take_length]
  rw [hc]
  refine List.filter_congr fun y _ => ?_
  have := lkA_last (l.filter (countsB day time)) [] (fun _ => none) (fun _ => rfl) y.key
  simp only [Ent.key] at this
  rw [mAt, hc, this]
  rfl
theorem entEq (o y : Ent) : ([o.no, o.kind, o.a, o.b, o.frm, o.til, o.known, o.gone] == [y.no, y.kind, y.a, y.b, y.frm, y.til, y.known, y.gone]) = decide (o = y) := by
  cases o; cases y
  rw [Bool.eq_iff_iff]
  simp
theorem subV_ent (ρ : Ren) (e : Ent) : subV ρ (entV e) (entV e) := by
  unfold entV
  simp only [subV]
  exact subVs_dV ρ _ (fun d hd => by
    simp only [entD, List.mem_cons, List.not_mem_nil, or_false] at hd
    rcases hd with rfl | rfl | rfl | rfl | rfl | rfl | rfl | rfl <;> rfl)
theorem gstanding_spec (l : List Ent) (day time : Int) (hl : l.length ≤ 140737488351232) (hk : ∀ k, i64 (l.getD k default).kind) : Spec Try.prog 23 [aEs l, aI day, aI time] (.rt [aEs (standE l day time), aI (errS l day time)]) := by
  refine spec_of T_ok Try.func23 (by dsimp only [Try.f23]) rfl rfl (by simp) fun w F => ?_
  repeat' (first
    | (with_reducible refine aw_seq ?_)
    | ((with_reducible refine twoG_intro ?_ ?_) <;> intro hTw <;> first | (exact Bool.noConfusion hTw) | ((try simp only [hTw, Bool.not_true, Bool.not_false, Bool.true_and, Bool.false_and, Bool.and_true, Bool.and_false, Bool.true_or, Bool.false_or, Bool.or_true, Bool.or_false]); (first | (guard_hyp hTw : true = true; clear hTw) | (guard_hyp hTw : false = false; clear hTw) | (revert hTw; intro _))))
    | ((with_reducible refine two_intro ?_ ?_) <;> intro hTw <;> first | (exact Bool.noConfusion hTw) | ((first | (guard_hyp hTw : true = true; clear hTw) | (guard_hyp hTw : false = false; clear hTw) | (revert hTw; intro _))))
    | ((with_reducible refine And.intro ?_ ?_); (focus (first | exact keyOk_pair_ | exact eqEnt_ | omega | rfl | decide | grind)))
    | (with_reducible refine aw_block ?_)
    | (with_reducible refine aw_scope ?_)
    | ((first
        | ((with_reducible refine aw_regionA T_ok ?_ ?_); (focus kernel_rfl))
        | ((with_reducible refine aw_drawnA T_ok ?_ ?_ ?_ ?_); (focus kernel_rfl); (focus kernel_rfl); (focus kernel_rfl))
        | ((with_reducible refine callK_intro (gcheck_spec l hl hk) (by with_unfolding_all rfl) ?_ ?_); (focus kernel_rfl))
        | ((with_reducible refine callI_spec (gcheck_spec l hl hk) (by with_unfolding_all rfl) ?_ ?_ ?_); (focus kernel_rfl); (focus kernel_rfl))
        | ((with_reducible apply callI_in T_ok Try.func49); (focus (dsimp only [Try.f49])); (focus rfl); (focus rfl); (focus kernel_rfl); (focus exact of_decide_eq_true (by kernel_rfl)); (focus kernel_rfl); (focus kernel_rfl); intro _)
        | ((with_reducible apply rfI_in Try.func59); (focus (dsimp only [Try.f59])); (focus (dsimp only [Base.inn, Base.inr])); (focus rfl); (focus rfl); (focus kernel_rfl); (focus exact of_decide_eq_true (by kernel_rfl)); (focus kernel_rfl); intro aL L hLp hLa hLb hLt)
        | (with_reducible refine aw_label ?_)
        | ((with_reducible refine aw_rfM ?_ ?_); (focus kernel_rfl))
        | (with_reducible refine aw_skip ?_)
        | (with_reducible refine aw_exit ?_)
        | ((with_reducible refine aw_condM ?_ ?_); (focus kernel_rfl))
        | (with_reducible refine aw_ret ?_)
      ); simp only [↓rwp.eq_def, ↓sop.eq_def, ↓slotK.eq_def, inV, shT, unT, inQ, rfQ, rfEnd, resOf, pickT, setP, ydA, ydQ, rowW, vD, fillV,  ↓gop.eq_def, ↓hop.eq_def, ↓hopH.eq_def, ↓hwp.eq_def, ↓ldV.eq_def, ↓ldK.eq_def, ↓ixK.eq_def, ↓addOff.eq_def, ↓exK.eq_def, ↓notK.eq_def, ↓pickK.eq_def, ↓iop2.eq_def, ↓binK.eq_def, ↓eqop.eq_def, icells, ↓iop.eq_def, ↓cutK.eq_def, ↓lenK.eq_def, ↓lenM.eq_def, tyInt, ↓lookK.eq_def, ↓mpK.eq_def, keyV, allI, fitK, lkM, upM, dlM, kq, ↓cvK.eq_def, ↓mmK.eq_def, ↓biK.eq_def, ↓stK.eq_def, ↓apK.eq_def, ↓apD.eq_def, ↓apS.eq_def, nxt, put, setT, setB, delB, lkT_n, lkT_c, lkB_n, lkB_c, ev, ofC, inT, ofA, ofRet, dV_n, dV_c, getD_enc, toDs_dV, List.head?_cons, List.length_map, Option.toArray_some, Option.toArray_none, Int.toNat_natCast, slOf, TyK.agg, vcells, splice, strip, stripP, gOf, allP, rowV, toDs, toD, toA, toAs, headOps, tailOps, isT, addN, Op.operands, Call.operands, List.map_cons, List.map_nil, List.drop_zero, List.drop_succ_cons, List.take_succ_cons, List.take_zero, List.length_cons, List.length_nil, List.getElem?_cons_zero, List.getElem?_cons_succ, List.getElem?_toArray, Option.bind_some, Option.map_some, Option.map_none, List.append_nil, List.nil_append, List.cons_append, if_true, if_false, reduceIte, Nat.reduceEqDiff, Nat.reduceAdd, Nat.reduceSub, Int.reduceToNat, Nat.reduceLeDiff, Nat.reduceLT, and_false, and_self, Nat.zero_add, Nat.add_zero, reduceCtorEq, Option.getD_some, Option.getD_none, Option.isSome_some, Option.isSome_none, forall_const, true_and, and_true, true_implies, Bool.true_and, Bool.false_and, Bool.and_true, Bool.and_false, Bool.true_or, Bool.false_or, Bool.or_true, Bool.or_false, beq_self_eq_true, zipM, zcells, Value.cells, Value.oneCell', List.toList_toArray, Array.toList_append, Bool.not_not, List.cons.injEq, Int.reduceEq, eq_self, false_and, Bool.not_true, Bool.not_false, ne_eq, not_false_eq_true, imp_self, implies_true, av_bt, av_bf, av_and, av_or, av_nf, av_tt, av_n1, av_n2, av_t1, av_tp, retQ, retL, resV, RetV, RetOk, SubL, entD_len, entD_take, entD_hd, entD_ln, entD_ic, entD_d1, entD_d2, entD_d3, entD_d4, entD_d5, entD_d6, entD_d7, ty_39, ty_3, ty_22, ty_72, ty_76, upM_ent, lkM_ent, entV]; try simp (disch := omega) only [av_w, av_t1, av_tp, Int.toNat_natCast]))
  rotate_left 2
  · rename_i h1 h1b _
    have hc : checkL l = 0 := by simpa using h1
    have he : errS l day time = 0 := by simp [errS, hc] at h1b ⊢; grind
    obtain ⟨hc1, hc2, hc3⟩ := checkL_ok hc
    refine aw_loopI (fun k : Nat => ⟨[(0, .yl 6), (1, .ptr 3 0), (2, .ptr 4 0), (3, .ptr 5 0), (42, vEs l), (43, vI day), (44, vI time), (48, .ptr 0 0), (49, vI 0), (51, .ptr 2 0), (7, vEs l), (8, vI l.length), (9, vI k)],
      [(6, .loop L .ready none), (5, .cells 3 [vI time]), (4, .cells 3 [vI day]), (3, .cells 22 [vEs l]), (2, .cells 72 [.mp 1]), (1, .map (.p 2) 76 (.agg (Array.replicate 8 (.int .i64 0))) (entV default) (mpV entV (mAt l day time k))), (0, .cells 22 [.d (.c (.slice none 0 0))])], 7⟩)
      (fun k => k ≤ l.length) (fun k => l.length - k) 0 (Nat.zero_le _) (wk_of [(0, some 0), (1, some 1), (2, some 2), (3, some 3), (4, some 4), (5, some 5), (6, some 6)] rfl rfl ?_ ?_) ?_
    · simp only [wkT, wkB, wkB1, subV, subVs, subD, subB, lkN_n, lkN_c, lkT_n, lkT_c, lkB_n, lkB_c, if_true, if_false, reduceIte, Nat.reduceEqDiff, true_and, and_true, and_self, inT, ofA]
      rfl
    · simp only [wkT, wkB, wkB1, subV, subVs, subD, subB, lkN_n, lkN_c, lkT_n, lkT_c, lkB_n, lkB_c, if_true, if_false, reduceIte, Nat.reduceEqDiff, true_and, and_true, and_self, inT, ofA]
      exact ⟨rfl, subV_ent _ default, trivial⟩
    intro k hk'
    repeat' (first
      | (with_reducible refine aw_seq ?_)
      | ((with_reducible refine twoG_intro ?_ ?_) <;> intro hTw <;> first | (exact Bool.noConfusion hTw) | ((try simp only [hTw, Bool.not_true, Bool.not_false, Bool.true_and, Bool.false_and, Bool.and_true, Bool.and_false, Bool.true_or, Bool.false_or, Bool.or_true, Bool.or_false]); (first | (guard_hyp hTw : true = true; clear hTw) | (guard_hyp hTw : false = false; clear hTw) | (revert hTw; intro _))))
      | ((with_reducible refine two_intro ?_ ?_) <;> intro hTw <;> first | (exact Bool.noConfusion hTw) | ((first | (guard_hyp hTw : true = true; clear hTw) | (guard_hyp hTw : false = false; clear hTw) | (revert hTw; intro _))))
      | ((with_reducible refine And.intro ?_ ?_); (focus (first | exact keyOk_pair_ | exact eqEnt_ | omega | rfl | decide | grind)))
      | (with_reducible refine aw_block ?_)
      | (with_reducible refine aw_scope ?_)
      | ((first
          | ((with_reducible refine aw_regionA T_ok ?_ ?_); (focus kernel_rfl))
          | ((with_reducible refine aw_drawnA T_ok ?_ ?_ ?_ ?_); (focus kernel_rfl); (focus kernel_rfl); (focus kernel_rfl))
          | (with_reducible refine aw_label ?_)
          | ((with_reducible refine aw_rfM ?_ ?_); (focus kernel_rfl))
          | (with_reducible refine aw_skip ?_)
          | (with_reducible refine aw_exit ?_)
          | ((with_reducible refine aw_condM ?_ ?_); (focus kernel_rfl))
          | (with_reducible refine aw_ret ?_)
        ); simp only [↓rwp.eq_def, ↓sop.eq_def, ↓slotK.eq_def, inV, shT, unT, inQ, rfQ, rfEnd, resOf, pickT, setP, ydA, ydQ, rowW, vD, fillV,  ↓gop.eq_def, ↓hop.eq_def, ↓hopH.eq_def, ↓hwp.eq_def, ↓ldV.eq_def, ↓ldK.eq_def, ↓ixK.eq_def, ↓addOff.eq_def, ↓exK.eq_def, ↓notK.eq_def, ↓pickK.eq_def, ↓iop2.eq_def, ↓binK.eq_def, ↓eqop.eq_def, icells, ↓iop.eq_def, ↓cutK.eq_def, ↓lenK.eq_def, ↓lenM.eq_def, tyInt, ↓lookK.eq_def, ↓mpK.eq_def, keyV, allI, fitK, lkM, upM, dlM, kq, ↓cvK.eq_def, ↓mmK.eq_def, ↓biK.eq_def, ↓stK.eq_def, ↓apK.eq_def, ↓apD.eq_def, ↓apS.eq_def, nxt, put, setT, setB, delB, lkT_n, lkT_c, lkB_n, lkB_c, ev, ofC, inT, ofA, ofRet, dV_n, dV_c, getD_enc, toDs_dV, List.head?_cons, List.length_map, Option.toArray_some, Option.toArray_none, Int.toNat_natCast, slOf, TyK.agg, vcells, splice, strip, stripP, gOf, allP, rowV, toDs, toD, toA, toAs, headOps, tailOps, isT, addN, Op.operands, Call.operands, List.map_cons, List.map_nil, List.drop_zero, List.drop_succ_cons, List.take_succ_cons, List.take_zero, List.length_cons, List.length_nil, List.getElem?_cons_zero, List.getElem?_cons_succ, List.getElem?_toArray, Option.bind_some, Option.map_some, Option.map_none, List.append_nil, List.nil_append, List.cons_append, if_true, if_false, reduceIte, Nat.reduceEqDiff, Nat.reduceAdd, Nat.reduceSub, Int.reduceToNat, Nat.reduceLeDiff, Nat.reduceLT, and_false, and_self, Nat.zero_add, Nat.add_zero, reduceCtorEq, Option.getD_some, Option.getD_none, Option.isSome_some, Option.isSome_none, forall_const, true_and, and_true, true_implies, Bool.true_and, Bool.false_and, Bool.and_true, Bool.and_false, Bool.true_or, Bool.false_or, Bool.or_true, Bool.or_false, beq_self_eq_true, zipM, zcells, Value.cells, Value.oneCell', List.toList_toArray, Array.toList_append, Bool.not_not, List.cons.injEq, Int.reduceEq, eq_self, false_and, Bool.not_true, Bool.not_false, ne_eq, not_false_eq_true, imp_self, implies_true, av_bt, av_bf, av_and, av_or, av_nf, av_tt, av_n1, av_n2, av_t1, av_tp, retQ, retL, resV, RetV, RetOk, SubL, entD_len, entD_take, entD_hd, entD_ln, entD_ic, entD_d1, entD_d2, entD_d3, entD_d4, entD_d5, entD_d6, entD_d7, ty_39, ty_3, ty_22, ty_72, ty_76, upM_ent, lkM_ent, entV]; try simp (disch := omega) only [av_w, av_t1, av_tp, Int.toNat_natCast]))
    · rename_i h2 h3
      have hlt : k < l.length := by simp at h2; omega
      have hv : validE (l.getD k default) = true := hc3 _ (by simp [List.getD, hlt])
      have hb : ((1 ≤ (l.getD k default).kind ∧ (l.getD k default).kind ≤ 4) ∧ 0 ≤ (l.getD k default).a ∧ (l.getD k default).a ≤ 1048576) := by
        simp only [validE, fitsB, idB] at hv
        grind
      have hs := mAt_succ l day time k hlt
      rw [if_pos (show countsB day time (l.getD k default) = true from h3)] at hs
      cases hm : lkA [(l.getD k default).kind, (l.getD k default).a] (mAt l day time k) with
      | none =>
        have hs : mAt l day time (k + 1) = upA [(l.getD k default).kind, (l.getD k default).a] (l.getD k default) (mAt l day time k) := by rw [hs, stepM, hm]
        repeat' (first
          | (with_reducible refine aw_seq ?_)
          | ((with_reducible refine twoG_intro ?_ ?_) <;> intro hTw <;> first | (exact Bool.noConfusion hTw) | ((try simp only [hTw, Bool.not_true, Bool.not_false, Bool.true_and, Bool.false_and, Bool.and_true, Bool.and_false, Bool.true_or, Bool.false_or, Bool.or_true, Bool.or_false]); (first | (guard_hyp hTw : true = true; clear hTw) | (guard_hyp hTw : false = false; clear hTw) | (revert hTw; intro _))))
          | ((with_reducible refine two_intro ?_ ?_) <;> intro hTw <;> first | (exact Bool.noConfusion hTw) | ((first | (guard_hyp hTw : true = true; clear hTw) | (guard_hyp hTw : false = false; clear hTw) | (revert hTw; intro _))))
          | ((with_reducible refine And.intro ?_ ?_); (focus (first | exact keyOk_pair_ | exact eqEnt_ | omega | rfl | decide | grind)))
          | (with_reducible refine aw_block ?_)
          | (with_reducible refine aw_scope ?_)
          | ((first
              | ((with_reducible refine aw_regionA T_ok ?_ ?_); (focus kernel_rfl))
              | ((with_reducible refine aw_drawnA T_ok ?_ ?_ ?_ ?_); (focus kernel_rfl); (focus kernel_rfl); (focus kernel_rfl))
              | ((with_reducible apply yieldI_in 0 0 (hL1 := hLp) (hL2 := hLa) (hL3 := hLb) (hsz := hLt.1)); (focus rfl); (focus rfl); (focus rfl); (focus kernel_rfl); (focus (dsimp only [Base.inn, Base.inr])); (focus exact (fun t ht => (hLt.2 t ht).trans (by rw [Nat.zero_add]; rfl))); (focus kernel_rfl); intro _)
              | (with_reducible refine aw_label ?_)
              | ((with_reducible refine aw_rfM ?_ ?_); (focus kernel_rfl))
              | (with_reducible refine aw_skip ?_)
              | (with_reducible refine aw_exit ?_)
              | ((with_reducible refine aw_condM ?_ ?_); (focus kernel_rfl))
              | (with_reducible refine aw_ret ?_)
            ); simp only [↓rwp.eq_def, ↓sop.eq_def, ↓slotK.eq_def, inV, shT, unT, inQ, rfQ, rfEnd, resOf, pickT, setP, ydA, ydQ, rowW, vD, fillV,  ↓gop.eq_def, ↓hop.eq_def, ↓hopH.eq_def, ↓hwp.eq_def, ↓ldV.eq_def, ↓ldK.eq_def, ↓ixK.eq_def, ↓addOff.eq_def, ↓exK.eq_def, ↓notK.eq_def, ↓pickK.eq_def, ↓iop2.eq_def, ↓binK.eq_def, ↓eqop.eq_def, icells, ↓iop.eq_def, ↓cutK.eq_def, ↓lenK.eq_def, ↓lenM.eq_def, tyInt, ↓lookK.eq_def, ↓mpK.eq_def, keyV, allI, fitK, lkM, upM, dlM, kq, ↓cvK.eq_def, ↓mmK.eq_def, ↓biK.eq_def, ↓stK.eq_def, ↓apK.eq_def, ↓apD.eq_def, ↓apS.eq_def, nxt, put, setT, setB, delB, lkT_n, lkT_c, lkB_n, lkB_c, ev, ofC, inT, ofA, ofRet, dV_n, dV_c, getD_enc, toDs_dV, List.head?_cons, List.length_map, Option.toArray_some, Option.toArray_none, Int.toNat_natCast, slOf, TyK.agg, vcells, splice, strip, stripP, gOf, allP, rowV, toDs, toD, toA, toAs, headOps, tailOps, isT, addN, Op.operands, Call.operands, List.map_cons, List.map_nil, List.drop_zero, List.drop_succ_cons, List.take_succ_cons, List.take_zero, List.length_cons, List.length_nil, List.getElem?_cons_zero, List.getElem?_cons_succ, List.getElem?_toArray, Option.bind_some, Option.map_some, Option.map_none, List.append_nil, List.nil_append, List.cons_append, if_true, if_false, reduceIte, Nat.reduceEqDiff, Nat.reduceAdd, Nat.reduceSub, Int.reduceToNat, Nat.reduceLeDiff, Nat.reduceLT, and_false, and_self, Nat.zero_add, Nat.add_zero, reduceCtorEq, Option.getD_some, Option.getD_none, Option.isSome_some, Option.isSome_none, forall_const, true_and, and_true, true_implies, Bool.true_and, Bool.false_and, Bool.and_true, Bool.and_false, Bool.true_or, Bool.false_or, Bool.or_true, Bool.or_false, beq_self_eq_true, zipM, zcells, Value.cells, Value.oneCell', List.toList_toArray, Array.toList_append, Bool.not_not, List.cons.injEq, Int.reduceEq, eq_self, false_and, Bool.not_true, Bool.not_false, ne_eq, not_false_eq_true, imp_self, implies_true, av_bt, av_bf, av_and, av_or, av_nf, av_tt, av_n1, av_n2, av_t1, av_tp, retQ, retL, resV, RetV, RetOk, SubL, entD_len, entD_take, entD_hd, entD_ln, entD_ic, entD_d1, entD_d2, entD_d3, entD_d4, entD_d5, entD_d6, entD_d7, ty_39, ty_3, ty_22, ty_72, ty_76, upM_ent, lkM_ent, entV, hm]; try simp (disch := omega) only [av_w, av_t1, av_tp, Int.toNat_natCast]))
        refine ⟨k + 1, by omega, by dsimp only; omega, wk_of [(0, some 0), (1, some 1), (2, some 2), (3, some 3), (4, some 4), (5, some 5), (6, some 6)] rfl rfl ?_ ?_⟩
        · simp only [wkT, wkB, wkB1, subV, subVs, subD, subB, lkN_n, lkN_c, lkT_n, lkT_c, lkB_n, lkB_c, if_true, if_false, reduceIte, Nat.reduceEqDiff, true_and, and_true, and_self, inT, ofA]
          (repeat' (first | exact trivial | rfl | exact rfl | refine And.intro ?_ ?_))
        · simp only [wkT, wkB, wkB1, subV, subVs, subD, subB, lkN_n, lkN_c, lkT_n, lkT_c, lkB_n, lkB_c, if_true, if_false, reduceIte, Nat.reduceEqDiff, true_and, and_true, and_self, inT, ofA]
          exact ⟨subV_ent _ default, subM_mpV (subV_ent _) hs.symm⟩
      | some o =>
        rw [stepM, hm] at hs
        repeat' (first
          | (with_reducible refine aw_seq ?_)
          | ((with_reducible refine twoG_intro ?_ ?_) <;> intro hTw <;> first | (exact Bool.noConfusion hTw) | ((try simp only [hTw, Bool.not_true, Bool.not_false, Bool.true_and, Bool.false_and, Bool.and_true, Bool.and_false, Bool.true_or, Bool.false_or, Bool.or_true, Bool.or_false]); (first | (guard_hyp hTw : true = true; clear hTw) | (guard_hyp hTw : false = false; clear hTw) | (revert hTw; intro _))))
          | ((with_reducible refine two_intro ?_ ?_) <;> intro hTw <;> first | (exact Bool.noConfusion hTw) | ((first | (guard_hyp hTw : true = true; clear hTw) | (guard_hyp hTw : false = false; clear hTw) | (revert hTw; intro _))))
          | ((with_reducible refine And.intro ?_ ?_); (focus (first | exact keyOk_pair_ | exact eqEnt_ | omega | rfl | decide | grind)))
          | (with_reducible refine aw_block ?_)
          | (with_reducible refine aw_scope ?_)
          | ((first
              | ((with_reducible refine aw_regionA T_ok ?_ ?_); (focus kernel_rfl))
              | ((with_reducible refine aw_drawnA T_ok ?_ ?_ ?_ ?_); (focus kernel_rfl); (focus kernel_rfl); (focus kernel_rfl))
              | ((with_reducible apply yieldI_in 0 0 (hL1 := hLp) (hL2 := hLa) (hL3 := hLb) (hsz := hLt.1)); (focus rfl); (focus rfl); (focus rfl); (focus kernel_rfl); (focus (dsimp only [Base.inn, Base.inr])); (focus exact (fun t ht => (hLt.2 t ht).trans (by rw [Nat.zero_add]; rfl))); (focus kernel_rfl); intro _)
              | (with_reducible refine aw_label ?_)
              | ((with_reducible refine aw_rfM ?_ ?_); (focus kernel_rfl))
              | (with_reducible refine aw_skip ?_)
              | (with_reducible refine aw_exit ?_)
              | ((with_reducible refine aw_condM ?_ ?_); (focus kernel_rfl))
              | (with_reducible refine aw_ret ?_)
            ); simp only [↓rwp.eq_def, ↓sop.eq_def, ↓slotK.eq_def, inV, shT, unT, inQ, rfQ, rfEnd, resOf, pickT, setP, ydA, ydQ, rowW, vD, fillV,  ↓gop.eq_def, ↓hop.eq_def, ↓hopH.eq_def, ↓hwp.eq_def, ↓ldV.eq_def, ↓ldK.eq_def, ↓ixK.eq_def, ↓addOff.eq_def, ↓exK.eq_def, ↓notK.eq_def, ↓pickK.eq_def, ↓iop2.eq_def, ↓binK.eq_def, ↓eqop.eq_def, icells, ↓iop.eq_def, ↓cutK.eq_def, ↓lenK.eq_def, ↓lenM.eq_def, tyInt, ↓lookK.eq_def, ↓mpK.eq_def, keyV, allI, fitK, lkM, upM, dlM, kq, ↓cvK.eq_def, ↓mmK.eq_def, ↓biK.eq_def, ↓stK.eq_def, ↓apK.eq_def, ↓apD.eq_def, ↓apS.eq_def, nxt, put, setT, setB, delB, lkT_n, lkT_c, lkB_n, lkB_c, ev, ofC, inT, ofA, ofRet, dV_n, dV_c, getD_enc, toDs_dV, List.head?_cons, List.length_map, Option.toArray_some, Option.toArray_none, Int.toNat_natCast, slOf, TyK.agg, vcells, splice, strip, stripP, gOf, allP, rowV, toDs, toD, toA, toAs, headOps, tailOps, isT, addN, Op.operands, Call.operands, List.map_cons, List.map_nil, List.drop_zero, List.drop_succ_cons, List.take_succ_cons, List.take_zero, List.length_cons, List.length_nil, List.getElem?_cons_zero, List.getElem?_cons_succ, List.getElem?_toArray, Option.bind_some, Option.map_some, Option.map_none, List.append_nil, List.nil_append, List.cons_append, if_true, if_false, reduceIte, Nat.reduceEqDiff, Nat.reduceAdd, Nat.reduceSub, Int.reduceToNat, Nat.reduceLeDiff, Nat.reduceLT, and_false, and_self, Nat.zero_add, Nat.add_zero, reduceCtorEq, Option.getD_some, Option.getD_none, Option.isSome_some, Option.isSome_none, forall_const, true_and, and_true, true_implies, Bool.true_and, Bool.false_and, Bool.and_true, Bool.and_false, Bool.true_or, Bool.false_or, Bool.or_true, Bool.or_false, beq_self_eq_true, zipM, zcells, Value.cells, Value.oneCell', List.toList_toArray, Array.toList_append, Bool.not_not, List.cons.injEq, Int.reduceEq, eq_self, false_and, Bool.not_true, Bool.not_false, ne_eq, not_false_eq_true, imp_self, implies_true, av_bt, av_bf, av_and, av_or, av_nf, av_tt, av_n1, av_n2, av_t1, av_tp, retQ, retL, resV, RetV, RetOk, SubL, entD_len, entD_take, entD_hd, entD_ln, entD_ic, entD_d1, entD_d2, entD_d3, entD_d4, entD_d5, entD_d6, entD_d7, ty_39, ty_3, ty_22, ty_72, ty_76, upM_ent, lkM_ent, entV, hm]; try simp (disch := omega) only [av_w, av_t1, av_tp, Int.toNat_natCast]))
        · rename_i h4
          rw [show (match some o with | some o => if o.frm ≤ (l.getD k default).frm then upA [(l.getD k default).kind, (l.getD k default).a] (l.getD k default) (mAt l day time k) else mAt l day time k | none => upA [(l.getD k default).kind, (l.getD k default).a] (l.getD k default) (mAt l day time k)) = upA [(l.getD k default).kind, (l.getD k default).a] (l.getD k default) (mAt l day time k) from if_pos (by simpa using h4)] at hs
          refine ⟨k + 1, by omega, by dsimp only; omega, wk_of [(0, some 0), (1, some 1), (2, some 2), (3, some 3), (4, some 4), (5, some 5), (6, some 6)] rfl rfl ?_ ?_⟩
          · simp only [wkT, wkB, wkB1, subV, subVs, subD, subB, lkN_n, lkN_c, lkT_n, lkT_c, lkB_n, lkB_c, if_true, if_false, reduceIte, Nat.reduceEqDiff, true_and, and_true, and_self, inT, ofA]
            (repeat' (first | exact trivial | rfl | exact rfl | refine And.intro ?_ ?_))
          · simp only [wkT, wkB, wkB1, subV, subVs, subD, subB, lkN_n, lkN_c, lkT_n, lkT_c, lkB_n, lkB_c, if_true, if_false, reduceIte, Nat.reduceEqDiff, true_and, and_true, and_self, inT, ofA]
            exact ⟨subV_ent _ default, subM_mpV (subV_ent _) hs.symm⟩
        · rename_i h4
          rw [show (match some o with | some o => if o.frm ≤ (l.getD k default).frm then upA [(l.getD k default).kind, (l.getD k default).a] (l.getD k default) (mAt l day time k) else mAt l day time k | none => upA [(l.getD k default).kind, (l.getD k default).a] (l.getD k default) (mAt l day time k)) = mAt l day time k from if_neg (by simpa using h4)] at hs
          refine ⟨k + 1, by omega, by dsimp only; omega, wk_of [(0, some 0), (1, some 1), (2, some 2), (3, some 3), (4, some 4), (5, some 5), (6, some 6)] rfl rfl ?_ ?_⟩
          · simp only [wkT, wkB, wkB1, subV, subVs, subD, subB, lkN_n, lkN_c, lkT_n, lkT_c, lkB_n, lkB_c, if_true, if_false, reduceIte, Nat.reduceEqDiff, true_and, and_true, and_self, inT, ofA]
            (repeat' (first | exact trivial | rfl | exact rfl | refine And.intro ?_ ?_))
          · simp only [wkT, wkB, wkB1, subV, subVs, subD, subB, lkN_n, lkN_c, lkT_n, lkT_c, lkB_n, lkB_c, if_true, if_false, reduceIte, Nat.reduceEqDiff, true_and, and_true, and_self, inT, ofA]
            exact ⟨subV_ent _ default, subM_mpV (subV_ent _) hs.symm⟩
    · rename_i h2 h3
      have hlt : k < l.length := by simp at h2; omega
      have hs := mAt_succ l day time k hlt
      rw [if_neg (show ¬ countsB day time (l.getD k default) = true by rw [show countsB day time (l.getD k default) = false from h3]; simp)] at hs
      refine ⟨k + 1, by omega, by dsimp only; omega, wk_of [(0, some 0), (1, some 1), (2, some 2), (3, some 3), (4, some 4), (5, some 5), (6, some 6)] rfl rfl ?_ ?_⟩
      · simp only [wkT, wkB, wkB1, subV, subVs, subD, subB, lkN_n, lkN_c, lkT_n, lkT_c, lkB_n, lkB_c, if_true, if_false, reduceIte, Nat.reduceEqDiff, true_and, and_true, and_self, inT, ofA]
        (repeat' (first | exact trivial | rfl | exact rfl | refine And.intro ?_ ?_))
      · simp only [wkT, wkB, wkB1, subV, subVs, subD, subB, lkN_n, lkN_c, lkT_n, lkT_c, lkB_n, lkB_c, if_true, if_false, reduceIte, Nat.reduceEqDiff, true_and, and_true, and_self, inT, ofA]
        exact ⟨subV_ent _ default, subM_mpV (subV_ent _) hs.symm⟩
    rename_i h2
    have hk2 : k = l.length := by simp at h2; omega
    subst hk2
    repeat' (first
      | (with_reducible refine aw_seq ?_)
      | ((with_reducible refine twoG_intro ?_ ?_) <;> intro hTw <;> first | (exact Bool.noConfusion hTw) | ((try simp only [hTw, Bool.not_true, Bool.not_false, Bool.true_and, Bool.false_and, Bool.and_true, Bool.and_false, Bool.true_or, Bool.false_or, Bool.or_true, Bool.or_false]); (first | (guard_hyp hTw : true = true; clear hTw) | (guard_hyp hTw : false = false; clear hTw) | (revert hTw; intro _))))
      | ((with_reducible refine two_intro ?_ ?_) <;> intro hTw <;> first | (exact Bool.noConfusion hTw) | ((first | (guard_hyp hTw : true = true; clear hTw) | (guard_hyp hTw : false = false; clear hTw) | (revert hTw; intro _))))
      | ((with_reducible refine And.intro ?_ ?_); (focus (first | exact keyOk_pair_ | exact eqEnt_ | omega | rfl | decide | grind)))
      | (with_reducible refine aw_block ?_)
      | (with_reducible refine aw_scope ?_)
      | ((first
          | ((with_reducible refine aw_regionA T_ok ?_ ?_); (focus kernel_rfl))
          | ((with_reducible refine aw_drawnA T_ok ?_ ?_ ?_ ?_); (focus kernel_rfl); (focus kernel_rfl); (focus kernel_rfl))
          | ((with_reducible apply callI_in T_ok Try.func49); (focus (dsimp only [Try.f49])); (focus rfl); (focus rfl); (focus kernel_rfl); (focus exact of_decide_eq_true (by kernel_rfl)); (focus kernel_rfl); (focus kernel_rfl); intro _)
          | ((with_reducible apply rfI_in Try.func59); (focus (dsimp only [Try.f59])); (focus (dsimp only [Base.inn, Base.inr])); (focus rfl); (focus rfl); (focus kernel_rfl); (focus exact of_decide_eq_true (by kernel_rfl)); (focus kernel_rfl); intro aL L hLp hLa hLb hLt)
          | (with_reducible refine aw_label ?_)
          | ((with_reducible refine aw_rfM ?_ ?_); (focus kernel_rfl))
          | (with_reducible refine aw_skip ?_)
          | (with_reducible refine aw_exit ?_)
          | ((with_reducible refine aw_condM ?_ ?_); (focus kernel_rfl))
          | (with_reducible refine aw_ret ?_)
        ); simp only [↓rwp.eq_def, ↓sop.eq_def, ↓slotK.eq_def, inV, shT, unT, inQ, rfQ, rfEnd, resOf, pickT, setP, ydA, ydQ, rowW, vD, fillV,  ↓gop.eq_def, ↓hop.eq_def, ↓hopH.eq_def, ↓hwp.eq_def, ↓ldV.eq_def, ↓ldK.eq_def, ↓ixK.eq_def, ↓addOff.eq_def, ↓exK.eq_def, ↓notK.eq_def, ↓pickK.eq_def, ↓iop2.eq_def, ↓binK.eq_def, ↓eqop.eq_def, icells, ↓iop.eq_def, ↓cutK.eq_def, ↓lenK.eq_def, ↓lenM.eq_def, tyInt, ↓lookK.eq_def, ↓mpK.eq_def, keyV, allI, fitK, lkM, upM, dlM, kq, ↓cvK.eq_def, ↓mmK.eq_def, ↓biK.eq_def, ↓stK.eq_def, ↓apK.eq_def, ↓apD.eq_def, ↓apS.eq_def, nxt, put, setT, setB, delB, lkT_n, lkT_c, lkB_n, lkB_c, ev, ofC, inT, ofA, ofRet, dV_n, dV_c, getD_enc, toDs_dV, List.head?_cons, List.length_map, Option.toArray_some, Option.toArray_none, Int.toNat_natCast, slOf, TyK.agg, vcells, splice, strip, stripP, gOf, allP, rowV, toDs, toD, toA, toAs, headOps, tailOps, isT, addN, Op.operands, Call.operands, List.map_cons, List.map_nil, List.drop_zero, List.drop_succ_cons, List.take_succ_cons, List.take_zero, List.length_cons, List.length_nil, List.getElem?_cons_zero, List.getElem?_cons_succ, List.getElem?_toArray, Option.bind_some, Option.map_some, Option.map_none, List.append_nil, List.nil_append, List.cons_append, if_true, if_false, reduceIte, Nat.reduceEqDiff, Nat.reduceAdd, Nat.reduceSub, Int.reduceToNat, Nat.reduceLeDiff, Nat.reduceLT, and_false, and_self, Nat.zero_add, Nat.add_zero, reduceCtorEq, Option.getD_some, Option.getD_none, Option.isSome_some, Option.isSome_none, forall_const, true_and, and_true, true_implies, Bool.true_and, Bool.false_and, Bool.and_true, Bool.and_false, Bool.true_or, Bool.false_or, Bool.or_true, Bool.or_false, beq_self_eq_true, zipM, zcells, Value.cells, Value.oneCell', List.toList_toArray, Array.toList_append, Bool.not_not, List.cons.injEq, Int.reduceEq, eq_self, false_and, Bool.not_true, Bool.not_false, ne_eq, not_false_eq_true, imp_self, implies_true, av_bt, av_bf, av_and, av_or, av_nf, av_tt, av_n1, av_n2, av_t1, av_tp, retQ, retL, resV, RetV, RetOk, SubL, entD_len, entD_take, entD_hd, entD_ln, entD_ic, entD_d1, entD_d2, entD_d3, entD_d4, entD_d5, entD_d6, entD_d7, ty_39, ty_3, ty_22, ty_72, ty_76, upM_ent, lkM_ent, entV]; try simp (disch := omega) only [av_w, av_t1, av_tp, Int.toNat_natCast]))
    refine aw_loopI (fun k : Nat => ⟨[(0, .yl 6), (1, .ptr 3 0), (2, .ptr 4 0), (3, .ptr 5 0), (42, vEs l), (43, vI day), (44, vI time), (48, .ptr 0 0), (49, vI 0), (51, .ptr 2 0), (7, vEs l), (8, vI l.length), (9, vI k)],
      [(6, .loop L .ready none), (5, .cells 3 [vI time]), (4, .cells 3 [vI day]), (3, .cells 22 [vEs l]), (2, .cells 72 [.mp 1]), (1, .map (.p 2) 76 (.agg (Array.replicate 8 (.int .i64 0))) (entV default) (mpV entV (mAt l day time l.length))), (0, .cells 22 [.ow 7 8 (entD default) ((srcAt l day time k).map entD)]), (7, .tok 39 8 (srcAt l day time k).length)], 8⟩)
      (fun k => k ≤ l.length) (fun k => l.length - k) 0 (Nat.zero_le _) (wk_of [(0, some 0), (1, some 1), (2, some 2), (3, some 7), (4, some 8), (5, some 9), (6, some 10), (7, none)] rfl rfl ?_ ?_) ?_
    · simp only [wkT, wkB, wkB1, subV, subVs, subD, subB, lkN_n, lkN_c, lkT_n, lkT_c, lkB_n, lkB_c, if_true, if_false, reduceIte, Nat.reduceEqDiff, true_and, and_true, and_self, inT, ofA]
      rfl
    · simp only [wkT, wkB, wkB1, subV, subVs, subD, subB, lkN_n, lkN_c, lkT_n, lkT_c, lkB_n, lkB_c, if_true, if_false, reduceIte, Nat.reduceEqDiff, true_and, and_true, and_self, inT, ofA]
      exact ⟨⟨subV_ent _ default, subM_mpV (subV_ent _) rfl⟩, by simp [srcAt, cAt]⟩
    intro k hk'
    have hsl := srcAt_len l day time k
    repeat' (first
      | (with_reducible refine aw_seq ?_)
      | ((with_reducible refine twoG_intro ?_ ?_) <;> intro hTw <;> first | (exact Bool.noConfusion hTw) | ((try simp only [hTw, Bool.not_true, Bool.not_false, Bool.true_and, Bool.false_and, Bool.and_true, Bool.and_false, Bool.true_or, Bool.false_or, Bool.or_true, Bool.or_false]); (first | (guard_hyp hTw : true = true; clear hTw) | (guard_hyp hTw : false = false; clear hTw) | (revert hTw; intro _))))
      | ((with_reducible refine two_intro ?_ ?_) <;> intro hTw <;> first | (exact Bool.noConfusion hTw) | ((first | (guard_hyp hTw : true = true; clear hTw) | (guard_hyp hTw : false = false; clear hTw) | (revert hTw; intro _))))
      | ((with_reducible refine And.intro ?_ ?_); (focus (first | exact keyOk_pair_ | exact eqEnt_ | omega | rfl | decide | grind)))
      | (with_reducible refine aw_block ?_)
      | (with_reducible refine aw_scope ?_)
      | ((first
          | ((with_reducible refine aw_regionA T_ok ?_ ?_); (focus kernel_rfl))
          | ((with_reducible refine aw_drawnA T_ok ?_ ?_ ?_ ?_); (focus kernel_rfl); (focus kernel_rfl); (focus kernel_rfl))
          | (with_reducible refine aw_label ?_)
          | ((with_reducible refine aw_rfM ?_ ?_); (focus kernel_rfl))
          | (with_reducible refine aw_skip ?_)
          | (with_reducible refine aw_exit ?_)
          | ((with_reducible refine aw_condM ?_ ?_); (focus kernel_rfl))
          | (with_reducible refine aw_ret ?_)
        ); simp only [↓rwp.eq_def, ↓sop.eq_def, ↓slotK.eq_def, inV, shT, unT, inQ, rfQ, rfEnd, resOf, pickT, setP, ydA, ydQ, rowW, vD, fillV,  ↓gop.eq_def, ↓hop.eq_def, ↓hopH.eq_def, ↓hwp.eq_def, ↓ldV.eq_def, ↓ldK.eq_def, ↓ixK.eq_def, ↓addOff.eq_def, ↓exK.eq_def, ↓notK.eq_def, ↓pickK.eq_def, ↓iop2.eq_def, ↓binK.eq_def, ↓eqop.eq_def, icells, ↓iop.eq_def, ↓cutK.eq_def, ↓lenK.eq_def, ↓lenM.eq_def, tyInt, ↓lookK.eq_def, ↓mpK.eq_def, keyV, allI, fitK, lkM, upM, dlM, kq, ↓cvK.eq_def, ↓mmK.eq_def, ↓biK.eq_def, ↓stK.eq_def, ↓apK.eq_def, ↓apD.eq_def, ↓apS.eq_def, nxt, put, setT, setB, delB, lkT_n, lkT_c, lkB_n, lkB_c, ev, ofC, inT, ofA, ofRet, dV_n, dV_c, getD_enc, toDs_dV, List.head?_cons, List.length_map, Option.toArray_some, Option.toArray_none, Int.toNat_natCast, slOf, TyK.agg, vcells, splice, strip, stripP, gOf, allP, rowV, toDs, toD, toA, toAs, headOps, tailOps, isT, addN, Op.operands, Call.operands, List.map_cons, List.map_nil, List.drop_zero, List.drop_succ_cons, List.take_succ_cons, List.take_zero, List.length_cons, List.length_nil, List.getElem?_cons_zero, List.getElem?_cons_succ, List.getElem?_toArray, Option.bind_some, Option.map_some, Option.map_none, List.append_nil, List.nil_append, List.cons_append, if_true, if_false, reduceIte, Nat.reduceEqDiff, Nat.reduceAdd, Nat.reduceSub, Int.reduceToNat, Nat.reduceLeDiff, Nat.reduceLT, and_false, and_self, Nat.zero_add, Nat.add_zero, reduceCtorEq, Option.getD_some, Option.getD_none, Option.isSome_some, Option.isSome_none, forall_const, true_and, and_true, true_implies, Bool.true_and, Bool.false_and, Bool.and_true, Bool.and_false, Bool.true_or, Bool.false_or, Bool.or_true, Bool.or_false, beq_self_eq_true, zipM, zcells, Value.cells, Value.oneCell', List.toList_toArray, Array.toList_append, Bool.not_not, List.cons.injEq, Int.reduceEq, eq_self, false_and, Bool.not_true, Bool.not_false, ne_eq, not_false_eq_true, imp_self, implies_true, av_bt, av_bf, av_and, av_or, av_nf, av_tt, av_n1, av_n2, av_t1, av_tp, retQ, retL, resV, RetV, RetOk, SubL, entD_len, entD_take, entD_hd, entD_ln, entD_ic, entD_d1, entD_d2, entD_d3, entD_d4, entD_d5, entD_d6, entD_d7, ty_39, ty_3, ty_22, ty_72, ty_76, upM_ent, lkM_ent, entV]; try simp (disch := omega) only [av_w, av_t1, av_tp, Int.toNat_natCast]))
    · rename_i h2 h3
      have hlt : k < l.length := by simp at h2; omega
      have hv : validE (l.getD k default) = true := hc3 _ (by simp [List.getD, hlt])
      have hb : ((1 ≤ (l.getD k default).kind ∧ (l.getD k default).kind ≤ 4) ∧ 0 ≤ (l.getD k default).a ∧ (l.getD k default).a ≤ 1048576) := by
        simp only [validE, fitsB, idB] at hv
        grind
      have hs := srcAt_succ l day time k hlt
      rw [show countsB day time (l.getD k default) = true from h3, Bool.true_and] at hs
      cases hm : lkA [(l.getD k default).kind, (l.getD k default).a] (mAt l day time l.length) with
      | none =>
        rw [hm] at hs
        repeat' (first
          | (with_reducible refine aw_seq ?_)
          | ((with_reducible refine twoG_intro ?_ ?_) <;> intro hTw <;> first | (exact Bool.noConfusion hTw) | ((try simp only [hTw, Bool.not_true, Bool.not_false, Bool.true_and, Bool.false_and, Bool.and_true, Bool.and_false, Bool.true_or, Bool.false_or, Bool.or_true, Bool.or_false]); (first | (guard_hyp hTw : true = true; clear hTw) | (guard_hyp hTw : false = false; clear hTw) | (revert hTw; intro _))))
          | ((with_reducible refine two_intro ?_ ?_) <;> intro hTw <;> first | (exact Bool.noConfusion hTw) | ((first | (guard_hyp hTw : true = true; clear hTw) | (guard_hyp hTw : false = false; clear hTw) | (revert hTw; intro _))))
          | ((with_reducible refine And.intro ?_ ?_); (focus (first | exact keyOk_pair_ | exact eqEnt_ | omega | rfl | decide | grind)))
          | (with_reducible refine aw_block ?_)
          | (with_reducible refine aw_scope ?_)
          | ((first
              | ((with_reducible refine aw_regionA T_ok ?_ ?_); (focus kernel_rfl))
              | ((with_reducible refine aw_drawnA T_ok ?_ ?_ ?_ ?_); (focus kernel_rfl); (focus kernel_rfl); (focus kernel_rfl))
              | ((with_reducible apply yieldI_in 0 0 (hL1 := hLp) (hL2 := hLa) (hL3 := hLb) (hsz := hLt.1)); (focus rfl); (focus rfl); (focus rfl); (focus kernel_rfl); (focus (dsimp only [Base.inn, Base.inr])); (focus exact (fun t ht => (hLt.2 t ht).trans (by rw [Nat.zero_add]; rfl))); (focus kernel_rfl); intro _)
              | (with_reducible refine aw_label ?_)
              | ((with_reducible refine aw_rfM ?_ ?_); (focus kernel_rfl))
              | (with_reducible refine aw_skip ?_)
              | (with_reducible refine aw_exit ?_)
              | ((with_reducible refine aw_condM ?_ ?_); (focus kernel_rfl))
              | (with_reducible refine aw_ret ?_)
            ); simp only [↓rwp.eq_def, ↓sop.eq_def, ↓slotK.eq_def, inV, shT, unT, inQ, rfQ, rfEnd, resOf, pickT, setP, ydA, ydQ, rowW, vD, fillV,  ↓gop.eq_def, ↓hop.eq_def, ↓hopH.eq_def, ↓hwp.eq_def, ↓ldV.eq_def, ↓ldK.eq_def, ↓ixK.eq_def, ↓addOff.eq_def, ↓exK.eq_def, ↓notK.eq_def, ↓pickK.eq_def, ↓iop2.eq_def, ↓binK.eq_def, ↓eqop.eq_def, icells, ↓iop.eq_def, ↓cutK.eq_def, ↓lenK.eq_def, ↓lenM.eq_def, tyInt, ↓lookK.eq_def, ↓mpK.eq_def, keyV, allI, fitK, lkM, upM, dlM, kq, ↓cvK.eq_def, ↓mmK.eq_def, ↓biK.eq_def, ↓stK.eq_def, ↓apK.eq_def, ↓apD.eq_def, ↓apS.eq_def, nxt, put, setT, setB, delB, lkT_n, lkT_c, lkB_n, lkB_c, ev, ofC, inT, ofA, ofRet, dV_n, dV_c, getD_enc, toDs_dV, List.head?_cons, List.length_map, Option.toArray_some, Option.toArray_none, Int.toNat_natCast, slOf, TyK.agg, vcells, splice, strip, stripP, gOf, allP, rowV, toDs, toD, toA, toAs, headOps, tailOps, isT, addN, Op.operands, Call.operands, List.map_cons, List.map_nil, List.drop_zero, List.drop_succ_cons, List.take_succ_cons, List.take_zero, List.length_cons, List.length_nil, List.getElem?_cons_zero, List.getElem?_cons_succ, List.getElem?_toArray, Option.bind_some, Option.map_some, Option.map_none, List.append_nil, List.nil_append, List.cons_append, if_true, if_false, reduceIte, Nat.reduceEqDiff, Nat.reduceAdd, Nat.reduceSub, Int.reduceToNat, Nat.reduceLeDiff, Nat.reduceLT, and_false, and_self, Nat.zero_add, Nat.add_zero, reduceCtorEq, Option.getD_some, Option.getD_none, Option.isSome_some, Option.isSome_none, forall_const, true_and, and_true, true_implies, Bool.true_and, Bool.false_and, Bool.and_true, Bool.and_false, Bool.true_or, Bool.false_or, Bool.or_true, Bool.or_false, beq_self_eq_true, zipM, zcells, Value.cells, Value.oneCell', List.toList_toArray, Array.toList_append, Bool.not_not, List.cons.injEq, Int.reduceEq, eq_self, false_and, Bool.not_true, Bool.not_false, ne_eq, not_false_eq_true, imp_self, implies_true, av_bt, av_bf, av_and, av_or, av_nf, av_tt, av_n1, av_n2, av_t1, av_tp, retQ, retL, resV, RetV, RetOk, SubL, entD_len, entD_take, entD_hd, entD_ln, entD_ic, entD_d1, entD_d2, entD_d3, entD_d4, entD_d5, entD_d6, entD_d7, ty_39, ty_3, ty_22, ty_72, ty_76, upM_ent, lkM_ent, entV, hm, entEq]; try simp (disch := omega) only [av_w, av_t1, av_tp, Int.toNat_natCast]))
        · rename_i h4
          have hc4 : (!oneB (l.getD k default) || (none : Option Ent) == some (l.getD k default)) = true := by
            have h0 : ¬ default = l.getD k default := fun e => by have : (0 : Int) = (l.getD k default).kind := congrArg Ent.kind e; omega
            rw [show decide ((default : Ent) = l.getD k default) = false from decide_eq_false h0] at h4
            simpa [oneB] using h4
          rw [if_pos hc4] at hs
          refine ⟨k + 1, by omega, by dsimp only; omega, wk_of [(0, some 0), (1, some 1), (2, some 2), (3, some 3), (4, some 4), (5, some 5), (6, some 6), (7, some 24)] rfl rfl ?_ ?_⟩
          · simp only [wkT, wkB, wkB1, subV, subVs, subD, subB, lkN_n, lkN_c, lkT_n, lkT_c, lkB_n, lkB_c, if_true, if_false, reduceIte, Nat.reduceEqDiff, true_and, and_true, and_self, inT, ofA]
            (repeat' (first | exact trivial | rfl | exact rfl | refine And.intro ?_ ?_))
          · simp only [wkT, wkB, wkB1, subV, subVs, subD, subB, lkN_n, lkN_c, lkT_n, lkT_c, lkB_n, lkB_c, if_true, if_false, reduceIte, Nat.reduceEqDiff, true_and, and_true, and_self, inT, ofA]
            rw [hs]
            first | exact ⟨⟨subV_ent _ default, subM_mpV (subV_ent _) rfl⟩, by simp⟩ | exact subM_mpV (subV_ent _) rfl | exact ⟨subV_ent _ default, subM_mpV (subV_ent _) rfl⟩
        · rename_i h4
          have hc4 : ¬ (!oneB (l.getD k default) || (none : Option Ent) == some (l.getD k default)) = true := by
            have h0 : ¬ default = l.getD k default := fun e => by have : (0 : Int) = (l.getD k default).kind := congrArg Ent.kind e; omega
            rw [show decide ((default : Ent) = l.getD k default) = false from decide_eq_false h0] at h4
            simpa [oneB] using h4
          rw [if_neg hc4, List.append_nil] at hs
          refine ⟨k + 1, by omega, by dsimp only; omega, wk_of [(0, some 0), (1, some 1), (2, some 2), (3, some 3), (4, some 4), (5, some 5), (6, some 6), (7, some 7)] rfl rfl ?_ ?_⟩
          · simp only [wkT, wkB, wkB1, subV, subVs, subD, subB, lkN_n, lkN_c, lkT_n, lkT_c, lkB_n, lkB_c, if_true, if_false, reduceIte, Nat.reduceEqDiff, true_and, and_true, and_self, inT, ofA]
            (repeat' (first | exact trivial | rfl | exact rfl | refine And.intro ?_ ?_))
          · simp only [wkT, wkB, wkB1, subV, subVs, subD, subB, lkN_n, lkN_c, lkT_n, lkT_c, lkB_n, lkB_c, if_true, if_false, reduceIte, Nat.reduceEqDiff, true_and, and_true, and_self, inT, ofA]
            rw [hs]
            first | exact ⟨⟨subV_ent _ default, subM_mpV (subV_ent _) rfl⟩, by simp⟩ | exact subM_mpV (subV_ent _) rfl | exact ⟨subV_ent _ default, subM_mpV (subV_ent _) rfl⟩
      | some o =>
        rw [hm] at hs
        repeat' (first
          | (with_reducible refine aw_seq ?_)
          | ((with_reducible refine twoG_intro ?_ ?_) <;> intro hTw <;> first | (exact Bool.noConfusion hTw) | ((try simp only [hTw, Bool.not_true, Bool.not_false, Bool.true_and, Bool.false_and, Bool.and_true, Bool.and_false, Bool.true_or, Bool.false_or, Bool.or_true, Bool.or_false]); (first | (guard_hyp hTw : true = true; clear hTw) | (guard_hyp hTw : false = false; clear hTw) | (revert hTw; intro _))))
          | ((with_reducible refine two_intro ?_ ?_) <;> intro hTw <;> first | (exact Bool.noConfusion hTw) | ((first | (guard_hyp hTw : true = true; clear hTw) | (guard_hyp hTw : false = false; clear hTw) | (revert hTw; intro _))))
          | ((with_reducible refine And.intro ?_ ?_); (focus (first | exact keyOk_pair_ | exact eqEnt_ | omega | rfl | decide | grind)))
          | (with_reducible refine aw_block ?_)
          | (with_reducible refine aw_scope ?_)
          | ((first
              | ((with_reducible refine aw_regionA T_ok ?_ ?_); (focus kernel_rfl))
              | ((with_reducible refine aw_drawnA T_ok ?_ ?_ ?_ ?_); (focus kernel_rfl); (focus kernel_rfl); (focus kernel_rfl))
              | ((with_reducible apply yieldI_in 0 0 (hL1 := hLp) (hL2 := hLa) (hL3 := hLb) (hsz := hLt.1)); (focus rfl); (focus rfl); (focus rfl); (focus kernel_rfl); (focus (dsimp only [Base.inn, Base.inr])); (focus exact (fun t ht => (hLt.2 t ht).trans (by rw [Nat.zero_add]; rfl))); (focus kernel_rfl); intro _)
              | (with_reducible refine aw_label ?_)
              | ((with_reducible refine aw_rfM ?_ ?_); (focus kernel_rfl))
              | (with_reducible refine aw_skip ?_)
              | (with_reducible refine aw_exit ?_)
              | ((with_reducible refine aw_condM ?_ ?_); (focus kernel_rfl))
              | (with_reducible refine aw_ret ?_)
            ); simp only [↓rwp.eq_def, ↓sop.eq_def, ↓slotK.eq_def, inV, shT, unT, inQ, rfQ, rfEnd, resOf, pickT, setP, ydA, ydQ, rowW, vD, fillV,  ↓gop.eq_def, ↓hop.eq_def, ↓hopH.eq_def, ↓hwp.eq_def, ↓ldV.eq_def, ↓ldK.eq_def, ↓ixK.eq_def, ↓addOff.eq_def, ↓exK.eq_def, ↓notK.eq_def, ↓pickK.eq_def, ↓iop2.eq_def, ↓binK.eq_def, ↓eqop.eq_def, icells, ↓iop.eq_def, ↓cutK.eq_def, ↓lenK.eq_def, ↓lenM.eq_def, tyInt, ↓lookK.eq_def, ↓mpK.eq_def, keyV, allI, fitK, lkM, upM, dlM, kq, ↓cvK.eq_def, ↓mmK.eq_def, ↓biK.eq_def, ↓stK.eq_def, ↓apK.eq_def, ↓apD.eq_def, ↓apS.eq_def, nxt, put, setT, setB, delB, lkT_n, lkT_c, lkB_n, lkB_c, ev, ofC, inT, ofA, ofRet, dV_n, dV_c, getD_enc, toDs_dV, List.head?_cons, List.length_map, Option.toArray_some, Option.toArray_none, Int.toNat_natCast, slOf, TyK.agg, vcells, splice, strip, stripP, gOf, allP, rowV, toDs, toD, toA, toAs, headOps, tailOps, isT, addN, Op.operands, Call.operands, List.map_cons, List.map_nil, List.drop_zero, List.drop_succ_cons, List.take_succ_cons, List.take_zero, List.length_cons, List.length_nil, List.getElem?_cons_zero, List.getElem?_cons_succ, List.getElem?_toArray, Option.bind_some, Option.map_some, Option.map_none, List.append_nil, List.nil_append, List.cons_append, if_true, if_false, reduceIte, Nat.reduceEqDiff, Nat.reduceAdd, Nat.reduceSub, Int.reduceToNat, Nat.reduceLeDiff, Nat.reduceLT, and_false, and_self, Nat.zero_add, Nat.add_zero, reduceCtorEq, Option.getD_some, Option.getD_none, Option.isSome_some, Option.isSome_none, forall_const, true_and, and_true, true_implies, Bool.true_and, Bool.false_and, Bool.and_true, Bool.and_false, Bool.true_or, Bool.false_or, Bool.or_true, Bool.or_false, beq_self_eq_true, zipM, zcells, Value.cells, Value.oneCell', List.toList_toArray, Array.toList_append, Bool.not_not, List.cons.injEq, Int.reduceEq, eq_self, false_and, Bool.not_true, Bool.not_false, ne_eq, not_false_eq_true, imp_self, implies_true, av_bt, av_bf, av_and, av_or, av_nf, av_tt, av_n1, av_n2, av_t1, av_tp, retQ, retL, resV, RetV, RetOk, SubL, entD_len, entD_take, entD_hd, entD_ln, entD_ic, entD_d1, entD_d2, entD_d3, entD_d4, entD_d5, entD_d6, entD_d7, ty_39, ty_3, ty_22, ty_72, ty_76, upM_ent, lkM_ent, entV, hm, entEq]; try simp (disch := omega) only [av_w, av_t1, av_tp, Int.toNat_natCast]))
        · rename_i h4
          rw [if_pos (by simpa [oneB] using h4)] at hs
          refine ⟨k + 1, by omega, by dsimp only; omega, wk_of [(0, some 0), (1, some 1), (2, some 2), (3, some 3), (4, some 4), (5, some 5), (6, some 6), (7, some 24)] rfl rfl ?_ ?_⟩
          · simp only [wkT, wkB, wkB1, subV, subVs, subD, subB, lkN_n, lkN_c, lkT_n, lkT_c, lkB_n, lkB_c, if_true, if_false, reduceIte, Nat.reduceEqDiff, true_and, and_true, and_self, inT, ofA]
            (repeat' (first | exact trivial | rfl | exact rfl | refine And.intro ?_ ?_))
          · simp only [wkT, wkB, wkB1, subV, subVs, subD, subB, lkN_n, lkN_c, lkT_n, lkT_c, lkB_n, lkB_c, if_true, if_false, reduceIte, Nat.reduceEqDiff, true_and, and_true, and_self, inT, ofA]
            rw [hs]
            first | exact ⟨⟨subV_ent _ default, subM_mpV (subV_ent _) rfl⟩, by simp⟩ | exact subM_mpV (subV_ent _) rfl | exact ⟨subV_ent _ default, subM_mpV (subV_ent _) rfl⟩
        · rename_i h4
          rw [if_neg (by simpa [oneB] using h4), List.append_nil] at hs
          refine ⟨k + 1, by omega, by dsimp only; omega, wk_of [(0, some 0), (1, some 1), (2, some 2), (3, some 3), (4, some 4), (5, some 5), (6, some 6), (7, some 7)] rfl rfl ?_ ?_⟩
          · simp only [wkT, wkB, wkB1, subV, subVs, subD, subB, lkN_n, lkN_c, lkT_n, lkT_c, lkB_n, lkB_c, if_true, if_false, reduceIte, Nat.reduceEqDiff, true_and, and_true, and_self, inT, ofA]
            (repeat' (first | exact trivial | rfl | exact rfl | refine And.intro ?_ ?_))
          · simp only [wkT, wkB, wkB1, subV, subVs, subD, subB, lkN_n, lkN_c, lkT_n, lkT_c, lkB_n, lkB_c, if_true, if_false, reduceIte, Nat.reduceEqDiff, true_and, and_true, and_self, inT, ofA]
            rw [hs]
            first | exact ⟨⟨subV_ent _ default, subM_mpV (subV_ent _) rfl⟩, by simp⟩ | exact subM_mpV (subV_ent _) rfl | exact ⟨subV_ent _ default, subM_mpV (subV_ent _) rfl⟩
    · rename_i h2 h3
      have hlt : k < l.length := by simp at h2; omega
      have hs := srcAt_succ l day time k hlt
      rw [show countsB day time (l.getD k default) = false from h3, Bool.false_and, if_neg (by simp), List.append_nil] at hs
      refine ⟨k + 1, by omega, by dsimp only; omega, wk_of [(0, some 0), (1, some 1), (2, some 2), (3, some 3), (4, some 4), (5, some 5), (6, some 6), (7, some 7)] rfl rfl ?_ ?_⟩
      · simp only [wkT, wkB, wkB1, subV, subVs, subD, subB, lkN_n, lkN_c, lkT_n, lkT_c, lkB_n, lkB_c, if_true, if_false, reduceIte, Nat.reduceEqDiff, true_and, and_true, and_self, inT, ofA]
        (repeat' (first | exact trivial | rfl | exact rfl | refine And.intro ?_ ?_))
      · simp only [wkT, wkB, wkB1, subV, subVs, subD, subB, lkN_n, lkN_c, lkT_n, lkT_c, lkB_n, lkB_c, if_true, if_false, reduceIte, Nat.reduceEqDiff, true_and, and_true, and_self, inT, ofA]
        rw [hs]
        first | exact ⟨⟨subV_ent _ default, subM_mpV (subV_ent _) rfl⟩, by simp⟩ | exact subM_mpV (subV_ent _) rfl | exact ⟨subV_ent _ default, subM_mpV (subV_ent _) rfl⟩ | exact ⟨⟨subV_ent _ default, subM_mpV (subV_ent _) rfl⟩, rfl⟩
    · rename_i h2
      have hk2 : k = l.length := by simp at h2; omega
      subst hk2
      rw [standE, he, if_pos rfl]
      exact ⟨Sub.sl (by rw [srcAt_all, stand_eq day time l hc2]), Sub.refl _⟩
  · rename_i h
    have h0 : checkL l ≠ 0 := by simpa using h
    have he : errS l day time = checkL l := by simp [errS, h0]
    rw [standE, he, if_neg h0]
    exact ⟨Sub.nil _ _, Sub.refl _⟩
  · rename_i h h2
    have h0 : checkL l = 0 := by simpa using h
    have he : errS l day time = 1 := by simp [errS, h0] at h2 ⊢; grind
    rw [standE, he, if_neg (by decide)]
    exact ⟨Sub.nil _ _, Sub.refl _⟩
end Go.Proofs.Ytfmefdeldgmhpaa

namespace Go.Proofs.Ytfmefdeldgmhpaa
set_option linter.unusedSimpArgs false
set_option linter.unusedVariables false
open Go.RowKit
def ordS (o : List Int) (y : Ent) : List Int := if y.kind ∈ o then o else o ++ [y.kind]
def ordK (p : List Ent) : List Int := p.foldl ordS []
def rowS (κ : Int) (m : AM Ent) (y : Ent) : AM Ent := if y.kind = κ then upA [y.a] y m else m
def rowK (κ : Int) (p : List Ent) : AM Ent := p.foldl (rowS κ) []
theorem ordK_succ (p : List Ent) (y : Ent) : ordK (p ++ [y]) = ordS (ordK p) y := by simp [ordK, List.foldl_append]
theorem rowK_succ (κ : Int) (p : List Ent) (y : Ent) : rowK κ (p ++ [y]) = rowS κ (rowK κ p) y := by simp [rowK, List.foldl_append]
theorem list_snoc {α : Type} {motive : List α → Prop} (h0 : motive []) (h1 : ∀ p y, motive p → motive (p ++ [y])) (l : List α) : motive l := by
  have : ∀ q p : List α, motive p → motive (p ++ q) := by
    intro q
    induction q with
    | nil => intro p hp; simpa using hp
    | cons y q ih => intro p hp; have := ih (p ++ [y]) (h1 p y hp); simpa using this
  simpa using this l [] h0
theorem mem_ordK (p : List Ent) : ∀ κ, κ ∈ ordK p ↔ ∃ y ∈ p, y.kind = κ := by
  refine list_snoc (motive := fun p => ∀ κ, κ ∈ ordK p ↔ ∃ y ∈ p, y.kind = κ) (fun κ => by simp [ordK]) (fun p y ih κ => ?_) p
  rw [ordK_succ, ordS]
  split
  · rename_i h
    rw [ih]
    constructor
    · rintro ⟨z, h1, h2⟩; exact ⟨z, by simp [h1], h2⟩
    · rintro ⟨z, h1, h2⟩
      rcases List.mem_append.1 h1 with h1 | h1
      · exact ⟨z, h1, h2⟩
      · rw [List.mem_singleton.1 h1] at h2
        rw [← h2]
        exact (ih _).1 h
  · simp only [List.mem_append, List.mem_singleton, ih]
    constructor
    · rintro (⟨z, h1, h2⟩ | h1)
      · exact ⟨z, .inl h1, h2⟩
      · exact ⟨y, .inr rfl, h1.symm⟩
    · rintro ⟨z, h1 | h1, h2⟩
      · exact .inl ⟨z, h1, h2⟩
      · rw [h1] at h2; exact .inr h2.symm
theorem nodup_ordK (p : List Ent) : (ordK p).Nodup := by
  refine list_snoc (motive := fun p => (ordK p).Nodup) (by simp [ordK]) (fun p y ih => ?_) p
  rw [ordK_succ, ordS]
  split
  · exact ih
  · rename_i h
    exact List.nodup_append.2 ⟨ih, by simp, fun a ha b hb => by rw [List.mem_singleton.1 hb]; exact fun e => h (by rw [← e]; exact ha)⟩
theorem rowK_none (p : List Ent) : ∀ κ, κ ∉ ordK p → rowK κ p = [] := by
  refine list_snoc (motive := fun p => ∀ κ, κ ∉ ordK p → rowK κ p = []) (fun κ _ => rfl) (fun p y ih κ h => ?_) p
  rw [rowK_succ, rowS]
  have hk : y.kind ≠ κ := fun e => h ((mem_ordK _ _).2 ⟨y, by simp, e⟩)
  rw [if_neg hk]
  exact ih κ (fun hm => h (by
    obtain ⟨z, h1, h2⟩ := (mem_ordK _ _).1 hm
    exact (mem_ordK _ _).2 ⟨z, by simp [h1], h2⟩))
/-- the last entry of a kind about a person -/
def lastK (κ a : Int) (p : List Ent) : Option Ent := p.foldl (fun o y => if y.kind = κ ∧ y.a = a then some y else o) none
theorem lkA_rowK (κ a : Int) (p : List Ent) : lkA [a] (rowK κ p) = lastK κ a p := by
  refine list_snoc (motive := fun p => lkA [a] (rowK κ p) = lastK κ a p) rfl (fun p y ih => ?_) p
  rw [rowK_succ, rowS, lastK, List.foldl_append]
  simp only [List.foldl_cons, List.foldl_nil]
  by_cases hk : y.kind = κ
  · rw [if_pos hk, lkA_upA]
    by_cases ha : y.a = a
    · rw [if_pos (by rw [ha]), if_pos ⟨hk, ha⟩]
    · rw [if_neg (fun h => ha (by simpa using h.symm)), if_neg (fun h => ha h.2), ih]; rfl
  · rw [if_neg hk, if_neg (fun h => hk h.1), ih]; rfl
/-- as data -/
abbrev zE : Value := .agg (Array.replicate 8 (.int .i64 0))
def rowD (κ : Int) (xs : List Ent) : D := .mp .i 3 zE (.ag (entD default)) ((rowK κ xs).map (·.1)) ((rowK κ xs).map fun p => .ag (entD p.2))
def nilD : D := .mp .i 3 zE (.ag (entD default)) [] []
def deskD (xs : List Ent) : D := .mp .i 3 (.map none) nilD ((ordK xs).map fun κ => [κ]) ((ordK xs).map fun κ => rowD κ xs)
theorem lk_desk (κ : Int) (xs : List Ent) : (lkM [κ] (zipM ((ordK xs).map fun κ => [κ]) ((ordK xs).map fun κ => rowD κ xs))).getD (vD nilD) = .d (rowD κ xs) := by
  have key : ∀ o : List Int, lkM [κ] (zipM (o.map fun κ => [κ]) (o.map fun κ => rowD κ xs)) = if κ ∈ o then some (.d (rowD κ xs)) else none := by
    intro o
    induction o with
    | nil => rfl
    | cons c o ih =>
      simp only [List.map_cons, zipM, lkM, ih, List.mem_cons, List.cons.injEq, and_true]
      by_cases h : κ = c
      · subst h; rw [if_pos rfl, if_pos (.inl rfl)]; rfl
      · rw [if_neg h]; simp [h]
  rw [key]
  by_cases h : κ ∈ ordK xs
  · rw [if_pos h]; rfl
  · rw [if_neg h]
    show vD nilD = _
    unfold rowD
    rw [rowK_none xs κ h]
    rfl
theorem lk_row (a κ : Int) (xs : List Ent) : lkM [a] (zipM ((rowK κ xs).map (·.1)) ((rowK κ xs).map fun p => .ag (entD p.2))) = (lastK κ a xs).map entV := by
  rw [zipM_mpV (fun e => .ag (entD e)) entV (fun _ => rfl), lkM_mpV, lkA_rowK]
end Go.Proofs.Ytfmefdeldgmhpaa

namespace Go.Proofs.Ytfmefdeldgmhpaa
set_option linter.unusedSimpArgs false
set_option linter.unusedVariables false
open Go.RowKit
set_option maxRecDepth 100000
set_option maxHeartbeats 4000000
def outV (o : List Int) : List (List Int × V) := o.map fun κ => ([κ], V.mp κ.toNat)
def rowB (κ : Int) (p : List Ent) : Blk := .map .i 3 zE (entV default) (mpV entV (rowK κ p))
def rowsB (o : List Int) (p : List Ent) : List (Nat × Blk) := o.map fun κ => (κ.toNat, rowB κ p)
def errO (l : List Ent) (person day time : Int) : Int := if errS l day time ≠ 0 then errS l day time else if person < 0 ∨ 1048576 < person then 1 else 0
def deskO (l : List Ent) (person day time : Int) : D := deskD (if errO l person day time = 0 then standE l day time else [])
theorem lkM_outV (κ : Int) : ∀ o : List Int, lkM [κ] (outV o) = if κ ∈ o then some (.mp κ.toNat) else none
  | [] => rfl
  | c :: o => by
    have ih := lkM_outV κ o
    simp only [outV, List.map_cons, lkM, List.mem_cons, List.cons.injEq, and_true] at ih ⊢
    by_cases h : κ = c
    · subst h; rw [if_pos rfl, if_pos (.inl rfl)]
    · rw [if_neg h, ih]; simp [h]
theorem upM_outV (κ : Int) (v : V) : ∀ o : List Int, κ ∉ o → upM [κ] v (outV o) = outV o ++ [([κ], v)]
  | [], _ => rfl
  | c :: o, h => by
    simp only [List.mem_cons, not_or] at h
    have ih := upM_outV κ v o h.2
    simp only [outV, List.map_cons, upM, List.cons.injEq, and_true, List.cons_append] at ih ⊢
    rw [if_neg h.1, ih]
theorem lkM_app (κ : Int) (v : V) (m : List (List Int × V)) (h : lkM [κ] m = none) : lkM [κ] (m ++ [([κ], v)]) = some v := by
  induction m with
  | nil => simp [lkM]
  | cons e m ih =>
    obtain ⟨d, x⟩ := e
    simp only [lkM, List.cons_append] at h ⊢
    split at h
    · cases h
    · rename_i hd; rw [if_neg hd]; exact ih h
theorem lkB_rowsB (p : List Ent) (κ : Int) : ∀ o : List Int, (∀ c ∈ o, 1 ≤ c) → 1 ≤ κ → lkB (rowsB o p) κ.toNat = if κ ∈ o then some (rowB κ p) else none
  | [], _, _ => rfl
  | c :: o, h, hκ => by
    have ih := lkB_rowsB p κ o (fun x hx => h x (by simp [hx])) hκ
    have hc := h c (by simp)
    simp only [rowsB, List.map_cons, lkB, List.mem_cons] at ih ⊢
    by_cases he : κ = c
    · subst he; rw [if_pos rfl, if_pos (.inl rfl)]
    · rw [if_neg (by omega), ih]; simp [he]
theorem subM_outV {ρ : Ren} : ∀ {o : List Int}, (∀ κ ∈ o, lkN ρ κ.toNat = some (some κ.toNat)) → subM ρ (outV o) (outV o)
  | [], _ => trivial
  | c :: o, h => ⟨⟨rfl, by simp only [subV]; exact h c (by simp)⟩, subM_outV fun κ hκ => h κ (by simp [hκ])⟩
theorem subM_app {ρ : Ren} : ∀ {l l' m m' : List (List Int × V)}, subM ρ l l' → subM ρ m m' → subM ρ (l ++ m) (l' ++ m')
  | [], [], _, _, _, h => h
  | (_, _) :: _, (_, _) :: _, _, _, h, k => ⟨h.1, subM_app h.2 k⟩
  | [], _ :: _, _, _, h, _ => by simp only [subM] at h
  | _ :: _, [], _, _, h, _ => by simp only [subM] at h
theorem wkB_rowsB {ρ : Ren} {st : List (Nat × Blk)} {p : List Ent} : ∀ {o : List Int}, (∀ κ ∈ o, wkB1 ρ st (rowB κ p) (lkN ρ κ.toNat)) → wkB ρ st (rowsB o p)
  | [], _ => trivial
  | c :: o, h => ⟨h c (by simp), wkB_rowsB fun κ hκ => h κ (by simp [hκ])⟩
theorem wkB_app {ρ : Ren} {st : List (Nat × Blk)} : ∀ {l m : List (Nat × Blk)}, wkB ρ st l → wkB ρ st m → wkB ρ st (l ++ m)
  | [], _, _, h => h
  | _ :: _, _, h, k => ⟨h.1, wkB_app h.2 k⟩
theorem subB_row {ρ : Ren} {κ : Int} {p p' : List Ent} (h : rowK κ p = rowK κ p') : subB ρ (rowB κ p) (rowB κ p') := by
  unfold rowB subB
  exact ⟨⟨rfl, rfl, rfl⟩, subV_ent _ _, subM_mpV (subV_ent _) h⟩
theorem stand_valid {l : List Ent} {day time : Int} (h : errS l day time = 0) : ∀ y ∈ standE l day time, validE y = true := by
  intro y hy
  have hc : checkL l = 0 := by
    unfold errS at h
    split at h
    · rename_i h1; exact absurd h h1
    · rename_i h1; simpa using h1
  rw [standE, if_pos h, standRef] at hy
  exact (checkL_ok hc).2.2 y (List.mem_filter.1 hy).1
theorem stand_len (l : List Ent) (day time : Int) : (standE l day time).length ≤ l.length := by
  unfold standE
  split
  · unfold standRef; exact List.length_filter_le _ _
  · simp
theorem rd_nilD (F : Ft) (w : World) : RD F w (.ag (entD default)) zE := by
  simp only [RD]
  refine ⟨(List.replicate 8 (.int .i64 0)), rfl, ?_, by simp [Value.oneCell']⟩
  simp only [entD, default, RDL, RD]
  simp [List.replicate]
theorem rd_nilp (F : Ft) (w : World) : RD F w nilD (.map none) := by
  unfold nilD
  exact rd_nilmp (rd_nilD F w) (by simp [RD])
theorem hopen_spec (l : List Ent) (person day time : Int) (hl : l.length ≤ 140737488351232) (hk : ∀ k, i64 (l.getD k default).kind) : Spec Try.prog 37 [aEs l, aI person, aI day, aI time] (.rt [.one (deskO l person day time), aI (errO l person day time)]) := by
  refine spec_of T_ok Try.func37 (by dsimp only [Try.f37]) rfl rfl (by simp) fun w F => ?_
  repeat' (first
    | (with_reducible refine aw_seq ?_)
    | ((with_reducible refine twoG_intro ?_ ?_) <;> intro hTw <;> first | (exact Bool.noConfusion hTw) | ((try simp only [hTw, Bool.not_true, Bool.not_false, Bool.true_and, Bool.false_and, Bool.and_true, Bool.and_false, Bool.true_or, Bool.false_or, Bool.or_true, Bool.or_false]); (first | (guard_hyp hTw : true = true; clear hTw) | (guard_hyp hTw : false = false; clear hTw) | (revert hTw; intro _))))
    | ((with_reducible refine two_intro ?_ ?_) <;> intro hTw <;> first | (exact Bool.noConfusion hTw) | ((first | (guard_hyp hTw : true = true; clear hTw) | (guard_hyp hTw : false = false; clear hTw) | (revert hTw; intro _))))
    | ((with_reducible refine And.intro ?_ ?_); (focus (first | exact keyOk_int_ | omega | rfl | decide | grind)))
    | (with_reducible refine aw_block ?_)
    | (with_reducible refine aw_scope ?_)
    | ((first
        | ((with_reducible refine aw_regionA T_ok ?_ ?_); (focus kernel_rfl))
        | ((with_reducible refine aw_drawnA T_ok ?_ ?_ ?_ ?_); (focus kernel_rfl); (focus kernel_rfl); (focus kernel_rfl))
        | ((with_reducible refine callK_intro (gstanding_spec l day time hl hk) (by with_unfolding_all rfl) ?_ ?_); (focus kernel_rfl))
        | ((with_reducible refine callI_spec (gstanding_spec l day time hl hk) (by with_unfolding_all rfl) ?_ ?_ ?_); (focus kernel_rfl); (focus kernel_rfl))
        | (with_reducible refine aw_label ?_)
        | ((with_reducible refine aw_rfM ?_ ?_); (focus kernel_rfl))
        | (with_reducible refine aw_skip ?_)
        | (with_reducible refine aw_exit ?_)
        | ((with_reducible refine aw_condM ?_ ?_); (focus kernel_rfl))
        | (with_reducible refine aw_ret ?_)
      ); simp only [↓rwp.eq_def, ↓sop.eq_def, ↓slotK.eq_def, inV, shT, unT, inQ, rfQ, rfEnd, resOf, pickT, setP, ydA, ydQ, rowW, vD, fillV,  ↓gop.eq_def, ↓hop.eq_def, ↓hopH.eq_def, ↓hwp.eq_def, ↓ldV.eq_def, ↓ldK.eq_def, ↓ixK.eq_def, ↓addOff.eq_def, ↓exK.eq_def, ↓notK.eq_def, ↓pickK.eq_def, ↓iop2.eq_def, ↓binK.eq_def, ↓eqop.eq_def, icells, ↓iop.eq_def, ↓cutK.eq_def, ↓lenK.eq_def, ↓lenM.eq_def, tyInt, ↓lookK.eq_def, ↓mpK.eq_def, keyV, allI, fitK, lkM, upM, dlM, kq, ↓cvK.eq_def, ↓mmK.eq_def, ↓biK.eq_def, ↓stK.eq_def, ↓apK.eq_def, ↓apD.eq_def, ↓apS.eq_def, nxt, put, setT, setB, delB, lkT_n, lkT_c, lkB_n, lkB_c, ev, ofC, inT, ofA, ofRet, dV_n, dV_c, getD_enc, toDs_dV, List.head?_cons, List.length_map, Option.toArray_some, Option.toArray_none, Int.toNat_natCast, slOf, TyK.agg, vcells, splice, strip, stripP, gOf, allP, rowV, toDs, toD, toA, toAs, headOps, tailOps, isT, addN, Op.operands, Call.operands, List.map_cons, List.map_nil, List.drop_zero, List.drop_succ_cons, List.take_succ_cons, List.take_zero, List.length_cons, List.length_nil, List.getElem?_cons_zero, List.getElem?_cons_succ, List.getElem?_toArray, Option.bind_some, Option.map_some, Option.map_none, List.append_nil, List.nil_append, List.cons_append, if_true, if_false, reduceIte, Nat.reduceEqDiff, Nat.reduceAdd, Nat.reduceSub, Int.reduceToNat, Nat.reduceLeDiff, Nat.reduceLT, and_false, and_self, Nat.zero_add, Nat.add_zero, reduceCtorEq, Option.getD_some, Option.getD_none, Option.isSome_some, Option.isSome_none, forall_const, true_and, and_true, true_implies, Bool.true_and, Bool.false_and, Bool.and_true, Bool.and_false, Bool.true_or, Bool.false_or, Bool.or_true, Bool.or_false, beq_self_eq_true, zipM, zcells, Value.cells, Value.oneCell', List.toList_toArray, Array.toList_append, Bool.not_not, List.cons.injEq, Int.reduceEq, eq_self, false_and, Bool.not_true, Bool.not_false, ne_eq, not_false_eq_true, imp_self, implies_true, av_bt, av_bf, av_and, av_or, av_nf, av_tt, av_n1, av_n2, av_t1, av_tp, retQ, retL, resV, RetV, RetOk, SubL, entD_len, entD_take, entD_hd, entD_ln, entD_ic, entD_d1, entD_d2, entD_d3, entD_d4, entD_d5, entD_d6, entD_d7, ty_39, ty_3, ty_22, ty_56, ty_63, upM_ent, lkM_ent, entV]; try simp (disch := omega) only [av_w, av_t1, av_tp, Int.toNat_natCast]))
  · rename_i h1
    have he : errS l day time ≠ 0 := by simpa using h1
    have ho : errO l person day time = errS l day time := by simp [errO, he]
    rw [ho, deskO, if_neg (by rw [ho]; exact he)]
    exact ⟨Sub.nilmp (fun F w => rd_nilp F w), Sub.refl _⟩
  · rename_i h1 h2
    have he : errS l day time = 0 := by simpa using h1
    have ho : errO l person day time = 1 := by simp [errO, he] at h2 ⊢; omega
    rw [ho, deskO, if_neg (by rw [ho]; decide)]
    exact ⟨Sub.nilmp (fun F w => rd_nilp F w), Sub.refl _⟩
  rename_i h1 h2
  have he : errS l day time = 0 := by simpa using h1
  have ho : errO l person day time = 0 := by simp [errO, he] at h2 ⊢; omega
  have hv := stand_valid he
  have hl2 := stand_len l day time
  rw [ho, deskO, if_pos ho, he]
  clear ho he h1 h2
  obtain ⟨xs, hxs⟩ : ∃ xs, xs = standE l day time := ⟨_, rfl⟩
  rw [← hxs] at hv hl2 ⊢
  clear hxs
  have hkb : ∀ y ∈ xs, 1 ≤ y.kind ∧ y.kind ≤ 4 ∧ 0 ≤ y.a ∧ y.a ≤ 1048576 := fun y hy => by
    have := hv y hy
    simp only [validE, fitsB, idB] at this
    grind
  have hoK : ∀ p : List Ent, (∀ y ∈ p, y ∈ xs) → ∀ κ ∈ ordK p, 1 ≤ κ ∧ κ ≤ 4 := fun p hp κ hκ => by
    obtain ⟨y, h1, h2⟩ := (mem_ordK p κ).1 hκ
    have := hkb y (hp y h1)
    omega
  refine aw_loopI (fun k : Nat => ⟨[(8, .mp 0), (30, vEs xs), (31, vI xs.length), (32, vI k)], (0, .map .i 3 (.map none) (.d (.c (.map none))) (outV (ordK (xs.take k)))) :: rowsB (ordK (xs.take k)) (xs.take k), 5⟩) (fun k => k ≤ xs.length) (fun k => xs.length - k) 0 (Nat.zero_le _) (wk_of [(0, some 0)] rfl rfl ?_ ?_) ?_
  · simp only [wkT, wkB, wkB1, subV, subVs, subD, subB, lkN_n, lkN_c, lkT_n, lkT_c, lkB_n, lkB_c, if_true, if_false, reduceIte, Nat.reduceEqDiff, true_and, and_true, and_self, inT, ofA]
    rfl
  · rw [List.take_zero]
    exact ⟨⟨⟨rfl, rfl, rfl⟩, rfl, trivial⟩, trivial⟩
  intro k hk'
  repeat (first
    | (with_reducible refine aw_seq ?_)
    | ((with_reducible refine And.intro ?_ ?_); (focus (first | exact keyOk_int_ | omega | rfl | decide | grind)))
    | (with_reducible refine aw_block ?_)
    | (with_reducible refine aw_scope ?_)
    | ((first
        | ((with_reducible refine aw_regionA T_ok ?_ ?_); (focus kernel_rfl))
        | ((with_reducible refine aw_drawnA T_ok ?_ ?_ ?_ ?_); (focus kernel_rfl); (focus kernel_rfl); (focus kernel_rfl))
        | (with_reducible refine aw_label ?_)
        | ((with_reducible refine aw_rfM ?_ ?_); (focus kernel_rfl))
        | (with_reducible refine aw_skip ?_)
        | (with_reducible refine aw_exit ?_)
      ); simp only [↓rwp.eq_def, ↓sop.eq_def, ↓slotK.eq_def, inV, shT, unT, inQ, rfQ, rfEnd, resOf, pickT, setP, ydA, ydQ, rowW, vD, fillV,  ↓gop.eq_def, ↓hop.eq_def, ↓hopH.eq_def, ↓hwp.eq_def, ↓ldV.eq_def, ↓ldK.eq_def, ↓ixK.eq_def, ↓addOff.eq_def, ↓exK.eq_def, ↓notK.eq_def, ↓pickK.eq_def, ↓iop2.eq_def, ↓binK.eq_def, ↓eqop.eq_def, icells, ↓iop.eq_def, ↓cutK.eq_def, ↓lenK.eq_def, ↓lenM.eq_def, tyInt, ↓lookK.eq_def, ↓mpK.eq_def, keyV, allI, fitK, lkM, upM, dlM, kq, ↓cvK.eq_def, ↓mmK.eq_def, ↓biK.eq_def, ↓stK.eq_def, ↓apK.eq_def, ↓apD.eq_def, ↓apS.eq_def, nxt, put, setT, setB, delB, lkT_n, lkT_c, lkB_n, lkB_c, ev, ofC, inT, ofA, ofRet, dV_n, dV_c, getD_enc, toDs_dV, List.head?_cons, List.length_map, Option.toArray_some, Option.toArray_none, Int.toNat_natCast, slOf, TyK.agg, vcells, splice, strip, stripP, gOf, allP, rowV, toDs, toD, toA, toAs, headOps, tailOps, isT, addN, Op.operands, Call.operands, List.map_cons, List.map_nil, List.drop_zero, List.drop_succ_cons, List.take_succ_cons, List.take_zero, List.length_cons, List.length_nil, List.getElem?_cons_zero, List.getElem?_cons_succ, List.getElem?_toArray, Option.bind_some, Option.map_some, Option.map_none, List.append_nil, List.nil_append, List.cons_append, if_true, if_false, reduceIte, Nat.reduceEqDiff, Nat.reduceAdd, Nat.reduceSub, Int.reduceToNat, Nat.reduceLeDiff, Nat.reduceLT, and_false, and_self, Nat.zero_add, Nat.add_zero, reduceCtorEq, Option.getD_some, Option.getD_none, Option.isSome_some, Option.isSome_none, forall_const, true_and, and_true, true_implies, Bool.true_and, Bool.false_and, Bool.and_true, Bool.and_false, Bool.true_or, Bool.false_or, Bool.or_true, Bool.or_false, beq_self_eq_true, zipM, zcells, Value.cells, Value.oneCell', List.toList_toArray, Array.toList_append, Bool.not_not, List.cons.injEq, Int.reduceEq, eq_self, false_and, Bool.not_true, Bool.not_false, ne_eq, not_false_eq_true, imp_self, implies_true, av_bt, av_bf, av_and, av_or, av_nf, av_tt, av_n1, av_n2, av_t1, av_tp, retQ, retL, resV, RetV, RetOk, SubL, entD_len, entD_take, entD_hd, entD_ln, entD_ic, entD_d1, entD_d2, entD_d3, entD_d4, entD_d5, entD_d6, entD_d7, ty_39, ty_3, ty_22, ty_56, ty_63, upM_ent, lkM_ent, entV]; try simp (disch := omega) only [av_w, av_t1, av_tp, Int.toNat_natCast]))
  refine aw_condM (by kernel_rfl) ?_
  simp only [↓rwp.eq_def, ↓sop.eq_def, ↓slotK.eq_def, inV, shT, unT, inQ, rfQ, rfEnd, resOf, pickT, setP, ydA, ydQ, rowW, vD, fillV,  ↓gop.eq_def, ↓hop.eq_def, ↓hopH.eq_def, ↓hwp.eq_def, ↓ldV.eq_def, ↓ldK.eq_def, ↓ixK.eq_def, ↓addOff.eq_def, ↓exK.eq_def, ↓notK.eq_def, ↓pickK.eq_def, ↓iop2.eq_def, ↓binK.eq_def, ↓eqop.eq_def, icells, ↓iop.eq_def, ↓cutK.eq_def, ↓lenK.eq_def, ↓lenM.eq_def, tyInt, ↓lookK.eq_def, ↓mpK.eq_def, keyV, allI, fitK, lkM, upM, dlM, kq, ↓cvK.eq_def, ↓mmK.eq_def, ↓biK.eq_def, ↓stK.eq_def, ↓apK.eq_def, ↓apD.eq_def, ↓apS.eq_def, nxt, put, setT, setB, delB, lkT_n, lkT_c, lkB_n, lkB_c, ev, ofC, inT, ofA, ofRet, dV_n, dV_c, getD_enc, toDs_dV, List.head?_cons, List.length_map, Option.toArray_some, Option.toArray_none, Int.toNat_natCast, slOf, TyK.agg, vcells, splice, strip, stripP, gOf, allP, rowV, toDs, toD, toA, toAs, headOps, tailOps, isT, addN, Op.operands, Call.operands, List.map_cons, List.map_nil, List.drop_zero, List.drop_succ_cons, List.take_succ_cons, List.take_zero, List.length_cons, List.length_nil, List.getElem?_cons_zero, List.getElem?_cons_succ, List.getElem?_toArray, Option.bind_some, Option.map_some, Option.map_none, List.append_nil, List.nil_append, List.cons_append, if_true, if_false, reduceIte, Nat.reduceEqDiff, Nat.reduceAdd, Nat.reduceSub, Int.reduceToNat, Nat.reduceLeDiff, Nat.reduceLT, and_false, and_self, Nat.zero_add, Nat.add_zero, reduceCtorEq, Option.getD_some, Option.getD_none, Option.isSome_some, Option.isSome_none, forall_const, true_and, and_true, true_implies, Bool.true_and, Bool.false_and, Bool.and_true, Bool.and_false, Bool.true_or, Bool.false_or, Bool.or_true, Bool.or_false, beq_self_eq_true, zipM, zcells, Value.cells, Value.oneCell', List.toList_toArray, Array.toList_append, Bool.not_not, List.cons.injEq, Int.reduceEq, eq_self, false_and, Bool.not_true, Bool.not_false, ne_eq, not_false_eq_true, imp_self, implies_true, av_bt, av_bf, av_and, av_or, av_nf, av_tt, av_n1, av_n2, av_t1, av_tp]
  refine two_intro ?_ ?_ <;> intro h1
  · have hlt : k < xs.length := by simp at h1; omega
    obtain ⟨y, hy⟩ : ∃ y, y = xs.getD k default := ⟨_, rfl⟩
    have hyx : y ∈ xs := by rw [hy]; simp [List.getD, hlt]
    have hb := hkb y hyx
    have htk : xs.take (k + 1) = xs.take k ++ [y] := by
      rw [List.take_succ_eq_append_getElem hlt, hy]; simp [List.getD, hlt]
    have hps : ∀ z ∈ xs.take k, z ∈ xs := fun z hz => List.mem_of_mem_take hz
    have hps' : ∀ z ∈ xs.take (k + 1), z ∈ xs := fun z hz => List.mem_of_mem_take hz
    have hok := hoK _ hps
    have hok' := hoK _ hps'
    obtain ⟨p, hp⟩ : ∃ p, p = xs.take k := ⟨_, rfl⟩
    obtain ⟨n, hn⟩ : ∃ n : Nat, n = y.kind.toNat := ⟨_, rfl⟩
    have hnk : y.kind = (n : Int) := by omega
    have hn5 : (n = 5) = False := by simp; omega
    have hn0 : (n = 0) = False := by simp; omega
    rw [← hp] at htk hok ⊢
    by_cases hmem : y.kind ∈ ordK p
    · have hA : lkM [y.kind] (outV (ordK p)) = some (.mp n) := by rw [lkM_outV, if_pos hmem, hn]
      have hB : lkB (rowsB (ordK p) p) n = some (.map .i 3 zE (entV default) (mpV entV (rowK y.kind p))) := by
        rw [hn, lkB_rowsB p y.kind _ (fun c hc => (hok c hc).1) hb.1, if_pos hmem]; rfl
      repeat' (first
        | (with_reducible refine aw_seq ?_)
        | ((with_reducible refine twoG_intro ?_ ?_) <;> intro hTw <;> first | (exact Bool.noConfusion hTw) | ((try simp only [hTw, Bool.not_true, Bool.not_false, Bool.true_and, Bool.false_and, Bool.and_true, Bool.and_false, Bool.true_or, Bool.false_or, Bool.or_true, Bool.or_false]); (first | (guard_hyp hTw : true = true; clear hTw) | (guard_hyp hTw : false = false; clear hTw) | (revert hTw; intro _))))
        | ((with_reducible refine two_intro ?_ ?_) <;> intro hTw <;> first | (exact Bool.noConfusion hTw) | ((first | (guard_hyp hTw : true = true; clear hTw) | (guard_hyp hTw : false = false; clear hTw) | (revert hTw; intro _))))
        | ((with_reducible refine And.intro ?_ ?_); (focus (first | exact keyOk_int_ | omega | rfl | decide | grind)))
        | (with_reducible refine aw_block ?_)
        | (with_reducible refine aw_scope ?_)
        | ((first
            | ((with_reducible refine aw_regionA T_ok ?_ ?_); (focus kernel_rfl))
            | ((with_reducible refine aw_drawnA T_ok ?_ ?_ ?_ ?_); (focus kernel_rfl); (focus kernel_rfl); (focus kernel_rfl))
            | (with_reducible refine aw_label ?_)
            | ((with_reducible refine aw_rfM ?_ ?_); (focus kernel_rfl))
            | (with_reducible refine aw_skip ?_)
            | (with_reducible refine aw_exit ?_)
            | ((with_reducible refine aw_condM ?_ ?_); (focus kernel_rfl))
            | (with_reducible refine aw_ret ?_)
          ); simp only [↓rwp.eq_def, ↓sop.eq_def, ↓slotK.eq_def, inV, shT, unT, inQ, rfQ, rfEnd, resOf, pickT, setP, ydA, ydQ, rowW, vD, fillV,  ↓gop.eq_def, ↓hop.eq_def, ↓hopH.eq_def, ↓hwp.eq_def, ↓ldV.eq_def, ↓ldK.eq_def, ↓ixK.eq_def, ↓addOff.eq_def, ↓exK.eq_def, ↓notK.eq_def, ↓pickK.eq_def, ↓iop2.eq_def, ↓binK.eq_def, ↓eqop.eq_def, icells, ↓iop.eq_def, ↓cutK.eq_def, ↓lenK.eq_def, ↓lenM.eq_def, tyInt, ↓lookK.eq_def, ↓mpK.eq_def, keyV, allI, fitK, lkM, upM, dlM, kq, ↓cvK.eq_def, ↓mmK.eq_def, ↓biK.eq_def, ↓stK.eq_def, ↓apK.eq_def, ↓apD.eq_def, ↓apS.eq_def, nxt, put, setT, setB, delB, lkT_n, lkT_c, lkB_n, lkB_c, ev, ofC, inT, ofA, ofRet, dV_n, dV_c, getD_enc, toDs_dV, List.head?_cons, List.length_map, Option.toArray_some, Option.toArray_none, Int.toNat_natCast, slOf, TyK.agg, vcells, splice, strip, stripP, gOf, allP, rowV, toDs, toD, toA, toAs, headOps, tailOps, isT, addN, Op.operands, Call.operands, List.map_cons, List.map_nil, List.drop_zero, List.drop_succ_cons, List.take_succ_cons, List.take_zero, List.length_cons, List.length_nil, List.getElem?_cons_zero, List.getElem?_cons_succ, List.getElem?_toArray, Option.bind_some, Option.map_some, Option.map_none, List.append_nil, List.nil_append, List.cons_append, if_true, if_false, reduceIte, Nat.reduceEqDiff, Nat.reduceAdd, Nat.reduceSub, Int.reduceToNat, Nat.reduceLeDiff, Nat.reduceLT, and_false, and_self, Nat.zero_add, Nat.add_zero, reduceCtorEq, Option.getD_some, Option.getD_none, Option.isSome_some, Option.isSome_none, forall_const, true_and, and_true, true_implies, Bool.true_and, Bool.false_and, Bool.and_true, Bool.and_false, Bool.true_or, Bool.false_or, Bool.or_true, Bool.or_false, beq_self_eq_true, zipM, zcells, Value.cells, Value.oneCell', List.toList_toArray, Array.toList_append, Bool.not_not, List.cons.injEq, Int.reduceEq, eq_self, false_and, Bool.not_true, Bool.not_false, ne_eq, not_false_eq_true, imp_self, implies_true, av_bt, av_bf, av_and, av_or, av_nf, av_tt, av_n1, av_n2, av_t1, av_tp, retQ, retL, resV, RetV, RetOk, SubL, entD_len, entD_take, entD_hd, entD_ln, entD_ic, entD_d1, entD_d2, entD_d3, entD_d4, entD_d5, entD_d6, entD_d7, ty_39, ty_3, ty_22, ty_56, ty_63, upM_ent, lkM_ent, entV, ← hy, hA, hB, hn5, hn0]; try simp (disch := omega) only [av_w, av_t1, av_tp, Int.toNat_natCast]))
      have hoe : ordK (p ++ [y]) = ordK p := by rw [ordK_succ, ordS, if_pos hmem]
      have hid : ∀ κ ∈ ordK p, lkN [(0, some 0), (1, some 1), (2, some 2), (3, some 3), (4, some 4)] κ.toNat = some (some κ.toNat) := fun κ hκ => by
        have := hok κ hκ
        obtain rfl | rfl | rfl | rfl : κ = 1 ∨ κ = 2 ∨ κ = 3 ∨ κ = 4 := by omega
        all_goals rfl
      refine ⟨k + 1, by omega, by dsimp only; omega, wk_of [(0, some 0), (1, some 1), (2, some 2), (3, some 3), (4, some 4)] rfl rfl ?_ ?_⟩
      · simp only [wkT, wkB, wkB1, subV, subVs, subD, subB, lkN_n, lkN_c, lkT_n, lkT_c, lkB_n, lkB_c, if_true, if_false, reduceIte, Nat.reduceEqDiff, true_and, and_true, and_self, inT, ofA]
        (repeat' (first | exact trivial | rfl | exact rfl | refine And.intro ?_ ?_))
      · dsimp only
        rw [htk, hoe]
        refine ⟨⟨⟨rfl, rfl, rfl⟩, rfl, subM_outV hid⟩, wkB_rowsB fun κ hκ => ?_⟩
        rw [hid κ hκ]
        have hκ2 := hok κ hκ
        have hlk : lkB ((5, Blk.cells 39 (dV (entD y))) :: (0, Blk.map .i 3 (.map none) (.d (.c (.map none))) (outV (ordK p))) :: setB n (Blk.map .i 3 zE (.agg (dV (entD default))) (mpV entV (upA [y.a] y (rowK y.kind p)))) (rowsB (ordK p) p)) κ.toNat = some (rowB κ (p ++ [y])) := by
          rw [lkB_c, if_neg (by omega), lkB_c, if_neg (by omega), lkB_setB]
          by_cases hκy : κ = y.kind
          · rw [if_pos (by omega), hκy]
            unfold rowB
            rw [rowK_succ, rowS, if_pos rfl]
            rfl
          · rw [if_neg (by omega), lkB_rowsB p κ _ (fun c hc => (hok c hc).1) hκ2.1, if_pos hκ]
            unfold rowB
            rw [rowK_succ, rowS, if_neg (fun e => hκy e.symm)]
        simp only [wkB1, hlk]
        exact subB_row rfl
    · have hA : lkM [y.kind] (outV (ordK p)) = none := by rw [lkM_outV, if_neg hmem]
      have hU : ∀ v, upM [y.kind] v (outV (ordK p)) = outV (ordK p) ++ [([y.kind], v)] := fun v => upM_outV _ v _ hmem
      have hL : ∀ v, lkM [y.kind] (outV (ordK p) ++ [([y.kind], v)]) = some v := fun v => lkM_app _ v _ hA
      repeat' (first
        | (with_reducible refine aw_seq ?_)
        | ((with_reducible refine twoG_intro ?_ ?_) <;> intro hTw <;> first | (exact Bool.noConfusion hTw) | ((try simp only [hTw, Bool.not_true, Bool.not_false, Bool.true_and, Bool.false_and, Bool.and_true, Bool.and_false, Bool.true_or, Bool.false_or, Bool.or_true, Bool.or_false]); (first | (guard_hyp hTw : true = true; clear hTw) | (guard_hyp hTw : false = false; clear hTw) | (revert hTw; intro _))))
        | ((with_reducible refine two_intro ?_ ?_) <;> intro hTw <;> first | (exact Bool.noConfusion hTw) | ((first | (guard_hyp hTw : true = true; clear hTw) | (guard_hyp hTw : false = false; clear hTw) | (revert hTw; intro _))))
        | ((with_reducible refine And.intro ?_ ?_); (focus (first | exact keyOk_int_ | omega | rfl | decide | grind)))
        | (with_reducible refine aw_block ?_)
        | (with_reducible refine aw_scope ?_)
        | ((first
            | ((with_reducible refine aw_regionA T_ok ?_ ?_); (focus kernel_rfl))
            | ((with_reducible refine aw_drawnA T_ok ?_ ?_ ?_ ?_); (focus kernel_rfl); (focus kernel_rfl); (focus kernel_rfl))
            | (with_reducible refine aw_label ?_)
            | ((with_reducible refine aw_rfM ?_ ?_); (focus kernel_rfl))
            | (with_reducible refine aw_skip ?_)
            | (with_reducible refine aw_exit ?_)
            | ((with_reducible refine aw_condM ?_ ?_); (focus kernel_rfl))
            | (with_reducible refine aw_ret ?_)
          ); simp only [↓rwp.eq_def, ↓sop.eq_def, ↓slotK.eq_def, inV, shT, unT, inQ, rfQ, rfEnd, resOf, pickT, setP, ydA, ydQ, rowW, vD, fillV,  ↓gop.eq_def, ↓hop.eq_def, ↓hopH.eq_def, ↓hwp.eq_def, ↓ldV.eq_def, ↓ldK.eq_def, ↓ixK.eq_def, ↓addOff.eq_def, ↓exK.eq_def, ↓notK.eq_def, ↓pickK.eq_def, ↓iop2.eq_def, ↓binK.eq_def, ↓eqop.eq_def, icells, ↓iop.eq_def, ↓cutK.eq_def, ↓lenK.eq_def, ↓lenM.eq_def, tyInt, ↓lookK.eq_def, ↓mpK.eq_def, keyV, allI, fitK, lkM, upM, dlM, kq, ↓cvK.eq_def, ↓mmK.eq_def, ↓biK.eq_def, ↓stK.eq_def, ↓apK.eq_def, ↓apD.eq_def, ↓apS.eq_def, nxt, put, setT, setB, delB, lkT_n, lkT_c, lkB_n, lkB_c, ev, ofC, inT, ofA, ofRet, dV_n, dV_c, getD_enc, toDs_dV, List.head?_cons, List.length_map, Option.toArray_some, Option.toArray_none, Int.toNat_natCast, slOf, TyK.agg, vcells, splice, strip, stripP, gOf, allP, rowV, toDs, toD, toA, toAs, headOps, tailOps, isT, addN, Op.operands, Call.operands, List.map_cons, List.map_nil, List.drop_zero, List.drop_succ_cons, List.take_succ_cons, List.take_zero, List.length_cons, List.length_nil, List.getElem?_cons_zero, List.getElem?_cons_succ, List.getElem?_toArray, Option.bind_some, Option.map_some, Option.map_none, List.append_nil, List.nil_append, List.cons_append, if_true, if_false, reduceIte, Nat.reduceEqDiff, Nat.reduceAdd, Nat.reduceSub, Int.reduceToNat, Nat.reduceLeDiff, Nat.reduceLT, and_false, and_self, Nat.zero_add, Nat.add_zero, reduceCtorEq, Option.getD_some, Option.getD_none, Option.isSome_some, Option.isSome_none, forall_const, true_and, and_true, true_implies, Bool.true_and, Bool.false_and, Bool.and_true, Bool.and_false, Bool.true_or, Bool.false_or, Bool.or_true, Bool.or_false, beq_self_eq_true, zipM, zcells, Value.cells, Value.oneCell', List.toList_toArray, Array.toList_append, Bool.not_not, List.cons.injEq, Int.reduceEq, eq_self, false_and, Bool.not_true, Bool.not_false, ne_eq, not_false_eq_true, imp_self, implies_true, av_bt, av_bf, av_and, av_or, av_nf, av_tt, av_n1, av_n2, av_t1, av_tp, retQ, retL, resV, RetV, RetOk, SubL, entD_len, entD_take, entD_hd, entD_ln, entD_ic, entD_d1, entD_d2, entD_d3, entD_d4, entD_d5, entD_d6, entD_d7, ty_39, ty_3, ty_22, ty_56, ty_63, upM_ent, lkM_ent, entV, ← hy, hA, hU, hL]; try simp (disch := omega) only [av_w, av_t1, av_tp, Int.toNat_natCast]))
      have hoe : ordK (p ++ [y]) = ordK p ++ [y.kind] := by rw [ordK_succ, ordS, if_neg hmem]
      have hn4 : n = 1 ∨ n = 2 ∨ n = 3 ∨ n = 4 := by omega
      obtain ⟨ρ, hρ⟩ : ∃ ρ : Ren, ρ = [(0, some 0), (1, some (if n = 1 then 6 else 1)), (2, some (if n = 2 then 6 else 2)), (3, some (if n = 3 then 6 else 3)), (4, some (if n = 4 then 6 else 4))] := ⟨_, rfl⟩
      have hid : ∀ κ ∈ ordK p, lkN ρ κ.toNat = some (some κ.toNat) := fun κ hκ => by
        have h1 := hok κ hκ
        have h2 : κ ≠ y.kind := fun e => hmem (by rw [← e]; exact hκ)
        rw [hρ]
        obtain rfl | rfl | rfl | rfl : κ = 1 ∨ κ = 2 ∨ κ = 3 ∨ κ = 4 := by omega
        all_goals (rcases hn4 with rfl | rfl | rfl | rfl <;> first | rfl | omega)
      have hnew : lkN ρ n = some (some 6) := by rw [hρ]; rcases hn4 with rfl | rfl | rfl | rfl <;> rfl
      have hρ0 : lkN ρ 0 = some (some 0) := by rw [hρ]; rfl
      refine ⟨k + 1, by omega, by dsimp only; omega, wk_of ρ (by rw [hρ]; rcases hn4 with rfl | rfl | rfl | rfl <;> rfl) (by rw [hρ]; rfl) ?_ ?_⟩
      · simp only [wkT, wkB, wkB1, subV, subVs, subD, subB, lkN_n, lkN_c, lkT_n, lkT_c, lkB_n, lkB_c, if_true, if_false, reduceIte, Nat.reduceEqDiff, true_and, and_true, and_self, inT, ofA, hρ0]
        (repeat' (first | exact trivial | rfl | exact rfl | refine And.intro ?_ ?_))
      · dsimp only
        rw [htk, hoe]
        have e1 : outV (ordK p ++ [y.kind]) = outV (ordK p) ++ [([y.kind], .mp n)] := by simp [outV, hn]
        have e2 : ∀ q, rowsB (ordK p ++ [y.kind]) q = rowsB (ordK p) q ++ [(n, rowB y.kind q)] := fun q => by simp [rowsB, hn]
        rw [e1, e2]
        refine ⟨?_, wkB_app (wkB_rowsB fun κ hκ => ?_) ⟨?_, trivial⟩⟩
        · rw [hρ0]
          exact ⟨⟨rfl, rfl, rfl⟩, rfl, subM_app (subM_outV hid) ⟨⟨rfl, by simp only [subV]; exact hnew⟩, trivial⟩⟩
        · rw [hid κ hκ]
          have hκ2 := hok κ hκ
          have hκy : κ ≠ y.kind := fun e => hmem (by rw [← e]; exact hκ)
          simp only [wkB1]
          rw [lkB_c, if_neg (by omega), lkB_c, if_neg (by omega), lkB_c, if_neg (by omega), lkB_rowsB p κ _ (fun c hc => (hok c hc).1) hκ2.1, if_pos hκ]
          exact subB_row (by rw [rowK_succ, rowS, if_neg (fun e => hκy e.symm)])
        · rw [hnew]
          simp only [wkB1]
          rw [lkB_c, if_pos rfl]
          have : rowK y.kind (p ++ [y]) = [([y.a], y)] := by rw [rowK_succ, rowS, if_pos rfl, rowK_none p _ hmem]; rfl
          unfold rowB
          rw [this]
          exact ⟨⟨rfl, rfl, rfl⟩, subV_ent ρ default, subM_mpV (m := [([y.a], y)]) (subV_ent ρ) rfl⟩
  · repeat (first
      | (with_reducible refine aw_seq ?_)
      | ((with_reducible refine And.intro ?_ ?_); (focus (first | exact keyOk_int_ | omega | rfl | decide | grind)))
      | (with_reducible refine aw_block ?_)
      | (with_reducible refine aw_scope ?_)
      | ((first
          | ((with_reducible refine aw_regionA T_ok ?_ ?_); (focus kernel_rfl))
          | ((with_reducible refine aw_drawnA T_ok ?_ ?_ ?_ ?_); (focus kernel_rfl); (focus kernel_rfl); (focus kernel_rfl))
          | (with_reducible refine aw_label ?_)
          | ((with_reducible refine aw_rfM ?_ ?_); (focus kernel_rfl))
          | (with_reducible refine aw_skip ?_)
          | (with_reducible refine aw_exit ?_)
        ); simp only [↓rwp.eq_def, ↓sop.eq_def, ↓slotK.eq_def, inV, shT, unT, inQ, rfQ, rfEnd, resOf, pickT, setP, ydA, ydQ, rowW, vD, fillV,  ↓gop.eq_def, ↓hop.eq_def, ↓hopH.eq_def, ↓hwp.eq_def, ↓ldV.eq_def, ↓ldK.eq_def, ↓ixK.eq_def, ↓addOff.eq_def, ↓exK.eq_def, ↓notK.eq_def, ↓pickK.eq_def, ↓iop2.eq_def, ↓binK.eq_def, ↓eqop.eq_def, icells, ↓iop.eq_def, ↓cutK.eq_def, ↓lenK.eq_def, ↓lenM.eq_def, tyInt, ↓lookK.eq_def, ↓mpK.eq_def, keyV, allI, fitK, lkM, upM, dlM, kq, ↓cvK.eq_def, ↓mmK.eq_def, ↓biK.eq_def, ↓stK.eq_def, ↓apK.eq_def, ↓apD.eq_def, ↓apS.eq_def, nxt, put, setT, setB, delB, lkT_n, lkT_c, lkB_n, lkB_c, ev, ofC, inT, ofA, ofRet, dV_n, dV_c, getD_enc, toDs_dV, List.head?_cons, List.length_map, Option.toArray_some, Option.toArray_none, Int.toNat_natCast, slOf, TyK.agg, vcells, splice, strip, stripP, gOf, allP, rowV, toDs, toD, toA, toAs, headOps, tailOps, isT, addN, Op.operands, Call.operands, List.map_cons, List.map_nil, List.drop_zero, List.drop_succ_cons, List.take_succ_cons, List.take_zero, List.length_cons, List.length_nil, List.getElem?_cons_zero, List.getElem?_cons_succ, List.getElem?_toArray, Option.bind_some, Option.map_some, Option.map_none, List.append_nil, List.nil_append, List.cons_append, if_true, if_false, reduceIte, Nat.reduceEqDiff, Nat.reduceAdd, Nat.reduceSub, Int.reduceToNat, Nat.reduceLeDiff, Nat.reduceLT, and_false, and_self, Nat.zero_add, Nat.add_zero, reduceCtorEq, Option.getD_some, Option.getD_none, Option.isSome_some, Option.isSome_none, forall_const, true_and, and_true, true_implies, Bool.true_and, Bool.false_and, Bool.and_true, Bool.and_false, Bool.true_or, Bool.false_or, Bool.or_true, Bool.or_false, beq_self_eq_true, zipM, zcells, Value.cells, Value.oneCell', List.toList_toArray, Array.toList_append, Bool.not_not, List.cons.injEq, Int.reduceEq, eq_self, false_and, Bool.not_true, Bool.not_false, ne_eq, not_false_eq_true, imp_self, implies_true, av_bt, av_bf, av_and, av_or, av_nf, av_tt, av_n1, av_n2, av_t1, av_tp, retQ, retL, resV, RetV, RetOk, SubL, entD_len, entD_take, entD_hd, entD_ln, entD_ic, entD_d1, entD_d2, entD_d3, entD_d4, entD_d5, entD_d6, entD_d7, ty_39, ty_3, ty_22, ty_56, ty_63, upM_ent, lkM_ent, entV]; try simp (disch := omega) only [av_w, av_t1, av_tp, Int.toNat_natCast]))
    have hk2 : k = xs.length := by simp at h1; omega
    subst hk2
    rw [List.take_length]
    have hok := hoK xs (fun _ h => h)
    refine aw_wk (wk_frz (tm' := [(8, .d (deskD xs)), (9, vI 0)]) ⟨⟨2, deskD xs, rfl, ?_⟩, ⟨0, .c (.int .i64 0), rfl, Frz.d⟩, trivial⟩) ?_
    · refine Frz.mp (z1 := .c (.map none)) rfl Frz.d (fun F w u h => rd_nilmp (rd_nilD F w) h) ?_ ?_ ?_
      · simp [outV]
      · simp [outV]
      · intro i x d' h1 h2
        simp only [outV, List.getElem?_map] at h1 h2
        cases hi : (ordK xs)[i]? with
        | none => rw [hi] at h1; cases h1
        | some κ =>
          rw [hi] at h1 h2
          simp only [Option.map_some, Option.some.injEq] at h1 h2
          subst h1 h2
          have hκ : κ ∈ ordK xs := List.mem_of_getElem? hi
          have hκ2 := hok κ hκ
          have hlk : lkB ((0, Blk.map .i 3 (.map none) (.d (.c (.map none))) (outV (ordK xs))) :: rowsB (ordK xs) xs) κ.toNat = some (.map .i 3 zE (entV default) (mpV entV (rowK κ xs))) := by
            rw [lkB_c, if_neg (by omega), lkB_rowsB xs κ _ (fun c hc => (hok c hc).1) hκ2.1, if_pos hκ]
            rfl
          refine Frz.mp (z1 := .ag (entD default)) hlk Frz.ag (fun _ _ _ h => h) (mpV_keys _ _).symm (by rw [mpV_length]; simp) ?_
          intro j x d' h1 h2
          rw [mpV_get] at h1
          rw [List.getElem?_map] at h2
          cases hj : (rowK κ xs)[j]? with
          | none => rw [hj] at h1; cases h1
          | some q =>
            rw [hj] at h1 h2
            simp only [Option.map_some, Option.some.injEq] at h1 h2
            subst h1 h2
            exact Frz.ag
    · refine aw_ret ?_
      simp only [↓rwp.eq_def, ↓sop.eq_def, ↓slotK.eq_def, inV, shT, unT, inQ, rfQ, rfEnd, resOf, pickT, setP, ydA, ydQ, rowW, vD, fillV,  ↓gop.eq_def, ↓hop.eq_def, ↓hopH.eq_def, ↓hwp.eq_def, ↓ldV.eq_def, ↓ldK.eq_def, ↓ixK.eq_def, ↓addOff.eq_def, ↓exK.eq_def, ↓notK.eq_def, ↓pickK.eq_def, ↓iop2.eq_def, ↓binK.eq_def, ↓eqop.eq_def, icells, ↓iop.eq_def, ↓cutK.eq_def, ↓lenK.eq_def, ↓lenM.eq_def, tyInt, ↓lookK.eq_def, ↓mpK.eq_def, keyV, allI, fitK, lkM, upM, dlM, kq, ↓cvK.eq_def, ↓mmK.eq_def, ↓biK.eq_def, ↓stK.eq_def, ↓apK.eq_def, ↓apD.eq_def, ↓apS.eq_def, nxt, put, setT, setB, delB, lkT_n, lkT_c, lkB_n, lkB_c, ev, ofC, inT, ofA, ofRet, dV_n, dV_c, getD_enc, toDs_dV, List.head?_cons, List.length_map, Option.toArray_some, Option.toArray_none, Int.toNat_natCast, slOf, TyK.agg, vcells, splice, strip, stripP, gOf, allP, rowV, toDs, toD, toA, toAs, headOps, tailOps, isT, addN, Op.operands, Call.operands, List.map_cons, List.map_nil, List.drop_zero, List.drop_succ_cons, List.take_succ_cons, List.take_zero, List.length_cons, List.length_nil, List.getElem?_cons_zero, List.getElem?_cons_succ, List.getElem?_toArray, Option.bind_some, Option.map_some, Option.map_none, List.append_nil, List.nil_append, List.cons_append, if_true, if_false, reduceIte, Nat.reduceEqDiff, Nat.reduceAdd, Nat.reduceSub, Int.reduceToNat, Nat.reduceLeDiff, Nat.reduceLT, and_false, and_self, Nat.zero_add, Nat.add_zero, reduceCtorEq, Option.getD_some, Option.getD_none, Option.isSome_some, Option.isSome_none, forall_const, true_and, and_true, true_implies, Bool.true_and, Bool.false_and, Bool.and_true, Bool.and_false, Bool.true_or, Bool.false_or, Bool.or_true, Bool.or_false, beq_self_eq_true, zipM, zcells, Value.cells, Value.oneCell', List.toList_toArray, Array.toList_append, Bool.not_not, List.cons.injEq, Int.reduceEq, eq_self, false_and, Bool.not_true, Bool.not_false, ne_eq, not_false_eq_true, imp_self, implies_true, av_bt, av_bf, av_and, av_or, av_nf, av_tt, av_n1, av_n2, av_t1, av_tp, retQ, retL, resV, RetV, RetOk, SubL, entD_len, entD_take, entD_hd, entD_ln, entD_ic, entD_d1, entD_d2, entD_d3, entD_d4, entD_d5, entD_d6, entD_d7, ty_39, ty_3, ty_22, ty_56, ty_63, upM_ent, lkM_ent, entV]
      exact ⟨Sub.refl _, Sub.refl _⟩
end Go.Proofs.Ytfmefdeldgmhpaa

namespace Go.Proofs.Ytfmefdeldgmhpaa
set_option linter.unusedSimpArgs false
set_option linter.unusedVariables false
open Go.RowKit
def nxK (xs : List Ent) (p : Int) : Option Int := (lastK 2 p xs).map (·.b)
def askedL (xs : List Ent) (p : Int) : List Int × Bool := chainF (nxK xs) xs.length [] p
theorem lastK_some' (κ a : Int) (p : List Ent) : ∀ e, lastK κ a p = some e → e ∈ p ∧ e.kind = κ ∧ e.a = a := by
  refine list_snoc (motive := fun p => ∀ e, lastK κ a p = some e → e ∈ p ∧ e.kind = κ ∧ e.a = a) (fun e h => by simp [lastK] at h) (fun p y ih e h => ?_) p
  rw [lastK, List.foldl_append] at h
  simp only [List.foldl_cons, List.foldl_nil] at h
  split at h
  · rename_i hy; cases h; exact ⟨by simp, hy.1, hy.2⟩
  · obtain ⟨h1, h2⟩ := ih e h; exact ⟨by simp [h1], h2⟩
theorem lastK_some {κ a : Int} {p : List Ent} {e : Ent} (h : lastK κ a p = some e) : e ∈ p ∧ e.kind = κ ∧ e.a = a := lastK_some' κ a p e h
theorem nxK_mem (xs : List Ent) (p : Int) (h : nxK xs p ≠ none) : p ∈ xs.map (·.a) := by
  unfold nxK at h
  cases hl : lastK 2 p xs with
  | none => rw [hl] at h; simp at h
  | some e =>
    obtain ⟨h1, _, h3⟩ := lastK_some hl
    exact List.mem_map.2 ⟨e, h1, h3⟩
/-- people met, as the map's entries -/
def metM (l : List Int) : AM Bool := l.foldl (fun m a => upA [a] true m) []
theorem metM_succ (l : List Int) (a : Int) : metM (l ++ [a]) = upA [a] true (metM l) := by simp [metM, List.foldl_append]
theorem lkA_metM (l : List Int) (a : Int) : lkA [a] (metM l) = if a ∈ l then some true else none := by
  refine list_snoc (motive := fun l => lkA [a] (metM l) = if a ∈ l then some true else none) rfl (fun l y ih => ?_) l
  rw [metM_succ, lkA_upA, ih]
  by_cases h : a = y
  · subst h; rw [if_pos rfl, if_pos (by simp)]
  · rw [if_neg (by simpa using h)]
    simp [h]
def unmet (xs : List Ent) (met : List Int) : Nat := ((xs.map (·.a)).filter (fun x => decide (x ∉ met))).length
/-- a state of the walk along the chain: n rounds at most, acc asked already, p asked now -/
structure ChainAt (xs : List Ent) (p0 : Int) (n : Nat) (acc : List Int) (p : Int) : Prop where
  fresh : p ∉ acc.reverse
  room : unmet xs acc.reverse ≤ n
  all : askedL xs p0 = (acc ++ (chainF (nxK xs) n acc.reverse p).1, (chainF (nxK xs) n acc.reverse p).2)
theorem chainAt_zero (xs : List Ent) (p0 : Int) : ChainAt xs p0 xs.length [] p0 :=
  ⟨by simp, by unfold unmet; exact Nat.le_trans (List.length_filter_le _ _) (by simp), by simp [askedL]⟩
theorem ChainAt.room_pos {xs : List Ent} {p0 p : Int} {n : Nat} {acc : List Int} (h : ChainAt xs p0 n acc p) {q : Int} (hq : nxK xs p = some q) : ∃ m, n = m + 1 ∧ unmet xs (p :: acc.reverse) ≤ m := by
  have hp := nxK_mem xs p (by rw [hq]; simp)
  have := filter_shrinks (xs.map (·.a)) acc.reverse p hp h.fresh
  have hr := h.room
  unfold unmet at *
  exact ⟨n - 1, by omega, by omega⟩
theorem ChainAt.stop {xs : List Ent} {p0 p : Int} {n : Nat} {acc : List Int} (h : ChainAt xs p0 n acc p) (hq : nxK xs p = none) : askedL xs p0 = (acc ++ [p], false) := by
  rw [h.all]
  cases n <;> simp [chainF, hq]
theorem ChainAt.circle {xs : List Ent} {p0 p q : Int} {n : Nat} {acc : List Int} (h : ChainAt xs p0 n acc p) (hq : nxK xs p = some q) (hm : q ∈ acc ++ [p]) : askedL xs p0 = (acc ++ [p], true) := by
  obtain ⟨m, rfl, _⟩ := h.room_pos hq
  have hm' : q ∈ p :: acc.reverse := by simp at hm ⊢; exact hm.symm
  rw [h.all]
  simp [chainF, hq, hm']
theorem ChainAt.next {xs : List Ent} {p0 p q : Int} {n : Nat} {acc : List Int} (h : ChainAt xs p0 n acc p) (hq : nxK xs p = some q) (hm : q ∉ acc ++ [p]) : ∃ m, m < n ∧ ChainAt xs p0 m (acc ++ [p]) q := by
  obtain ⟨m, rfl, hu⟩ := h.room_pos hq
  have hm' : q ∉ p :: acc.reverse := by simp at hm ⊢; exact ⟨hm.2, hm.1⟩
  refine ⟨m, Nat.lt_succ_self _, by simpa using hm', by simpa using hu, ?_⟩
  rw [h.all]
  simp only [chainF, hq]
  rw [if_neg hm']
  simp
theorem askedL_len (xs : List Ent) (p : Int) : (askedL xs p).1.length ≤ xs.length + 1 := by
  have : ∀ n met p, (chainF (nxK xs) n met p).1.length ≤ n + 1 := by
    intro n
    induction n with
    | zero => intro met p; simp [chainF]
    | succ n ih =>
      intro met p
      simp only [chainF]
      cases nxK xs p with
      | none => simp
      | some q =>
        simp only []
        split
        · simp
        · have := ih (p :: met) q; simp; omega
  exact this _ _ _
theorem ChainAt.len {xs : List Ent} {p0 p : Int} {n : Nat} {acc : List Int} (h : ChainAt xs p0 n acc p) : acc.length ≤ xs.length := by
  have h1 := askedL_len xs p0
  rw [h.all] at h1
  have h2 : 1 ≤ (chainF (nxK xs) n acc.reverse p).1.length := by
    cases n with
    | zero => simp [chainF]
    | succ n =>
      simp only [chainF]
      cases nxK xs p with
      | none => simp
      | some q => simp only []; split <;> simp
  simp at h1
  omega
theorem errO_ok {l : List Ent} {person day time : Int} (h : errO l person day time = 0) : errS l day time = 0 ∧ 0 ≤ person ∧ person ≤ 1048576 := by
  unfold errO at h
  split at h
  · rename_i h1; exact absurd h h1
  · rename_i h1
    split at h
    · cases h
    · rename_i h2; exact ⟨by simpa using h1, by omega, by omega⟩
theorem stand_small {l : List Ent} {day time : Int} (h : errS l day time = 0) : l.length ≤ 1024 := by
  have hc : checkL l = 0 := by
    unfold errS at h
    split at h
    · rename_i h1; exact absurd h h1
    · rename_i h1; simpa using h1
  exact (checkL_ok hc).1
theorem lastK_b {xs : List Ent} {p : Int} {e : Ent} (hv : ∀ y ∈ xs, validE y = true) (h : lastK 2 p xs = some e) : 0 ≤ e.b ∧ e.b ≤ 1048576 := by
  obtain ⟨h1, h2, _⟩ := lastK_some h
  have := hv e h1
  simp only [validE, fitsB, idB, h2] at this
  grind
theorem askedL_ne (xs : List Ent) (p : Int) : ∃ l, (askedL xs p).1 = p :: l := by
  unfold askedL
  cases xs.length with
  | zero => exact ⟨[], rfl⟩
  | succ n =>
    simp only [chainF]
    cases nxK xs p with
    | none => exact ⟨[], rfl⟩
    | some q =>
      simp only []
      split
      · exact ⟨[], rfl⟩
      · exact ⟨_, rfl⟩
end Go.Proofs.Ytfmefdeldgmhpaa

namespace Go.Proofs.Ytfmefdeldgmhpaa
set_option linter.unusedVariables false
set_option linter.unusedSimpArgs false
open Go.RowKit
section
variable {F : Fence} {n : Nat} {P : Program} {Q : Exit → Act → World → Prop} {a : Act} {w : World}
theorem stepR_scope {b : Frame} {k : List Item} {cs : List Frame} {c : Code} : step P (lone (b.atR a (.code (.scope c) :: k)) cs w) = .next (lone (b.atR a (.code c :: .inScope c :: k)) cs w) :=
  step_lone_go (by simp [stepG, stepG.exec, Frame.atR])
theorem stepR_inScope {b : Frame} {k : List Item} {cs : List Frame} {c : Code} : step P (lone (b.atR a (.inScope c :: k)) cs w) = .next (lone (b.atR a k) cs w) :=
  step_lone_go (by simp [stepG, stepG.exec, Frame.atR])
theorem wpIn_scope {c : Code} (h : c.wpIn F n P (Exit.noGoto Q) a w) : (Code.scope c).wpIn F n P Q a w := by
  intro b k cs hro hb hr
  have h0 : (lone (b.atR a (.code (.scope c) :: k)) cs w).fenced P F := fenced_calm hb hr rfl
  obtain ⟨e, a₁, w₁, hq, harr⟩ := h b (.inScope c :: k) cs hro hb hr
  cases e with
  | normal => exact ⟨.normal, a₁, w₁, hq, .head h0 stepR_scope (StepsIn.trans harr (.one (fenced_calm hb hr rfl) stepR_inScope))⟩
  | exit id =>
    have hx : exitTo id (.inScope c :: k) = exitTo id k := by simp [exitTo]
    exact ⟨.exit id, a₁, w₁, hq, fun k' hk => .head h0 stepR_scope (harr.1 k' (by rw [hx]; exact hk)),
      fun hr' hk => let ⟨k₁, h1, h2⟩ := harr.2 hr' (by rw [hx]; exact hk); ⟨k₁, h1, .head h0 stepR_scope h2⟩⟩
  | goto l => exact hq.elim
  | ret => exact ⟨_, a₁, w₁, hq, .of_steps (.one h0 stepR_scope) harr⟩
  | panic ch => exact ⟨_, a₁, w₁, hq, .of_steps (.one h0 stepR_scope) harr⟩
  | outgrown => exact ⟨_, a₁, w₁, hq, .of_steps (.one h0 stepR_scope) harr⟩
end
section
variable {P : Program} {B : Base} {Q : AQ} {s : St}
theorem aw_scope {c : Code} (h : AW P B c (fun e s' => match e with | .goto _ => False | e => Q e s') ⟨⟩ s) : AW P B (.scope c) Q ⟨⟩ s := fun E a hG => by
  refine wpIn_scope (Code.wpIn_mono ?_ (h E a hG))
  rintro e a' w' ⟨E', s', rfl, hG', hq⟩
  cases e with
  | goto l => exact hq.elim
  | _ => exact ⟨E', s', rfl, hG', hq⟩
theorem aw_label {l : Nat} (h : Q .normal s) : AW P B (.label l) Q ⟨⟩ s := fun E a hG => wpIn_label ⟨E, s, rfl, hG, h⟩
end
end Go.Proofs.Ytfmefdeldgmhpaa

namespace Go.Proofs.Ytfmefdeldgmhpaa
set_option linter.unusedVariables false
set_option linter.unusedSimpArgs false
open Go.RowKit
/-- such a region with a write (index iw) among the heads: it waits for less than the tail, and no other head reads what it writes -/
def drawOkS (l : List Oper) (hd tail : List Nat) (iw : Nat) : Bool :=
  sinkT .any l.toArray (fun i => hd.contains i) && tail.all (fun t => !hd.contains t) && (List.range l.length).all (fun i => hd.contains i || tail.contains i) && hd.all (fun i => decide (i < l.length)) && decide hd.Nodup &&
  (List.range l.length).all (fun i => match l[i]? with | some o => o.after.toList.all fun e => !Region.binds .any e || decide (e.on < i) | none => true) && incr (pickOps l (hd.filter (fun i => i != iw))) &&
  (pickOps l (hd.filter (fun i => i != iw))).all (fun p => (p.2.looksAt l.toArray).all fun t => (pickOps l (hd.filter (fun i => i != iw))).all fun q => q.2.dst != some t || (if q.1 < p.1 then reachB .any l.toArray l.length p.1 q.1 else decide (p.1 < q.1) && reachB .any l.toArray l.length q.1 p.1)) &&
  seqT .any l.toArray tail (canonH l.length hd) && decide (hd.length + tail.length = l.length) && hd.contains iw &&
  (match l[iw]? with
    | some o => o.dst == none && o.guard == none && (o.looksAt l.toArray).all fun t => (pickOps l (hd.filter (fun i => i != iw))).all fun q => q.2.dst != some t || reachB .any l.toArray l.length iw q.1
    | none => false)
section
variable {P : Program} {B : Base} {T : Tab}
theorem wpAny_headsS {l : List Oper} {hd tail : List Nat} {iw : Nat} {Q : Exit → Act → World → Prop} {tm0 tmF : List (Nat × V)} {st00 st0 st1 nbF : List (Nat × Blk)} {nx : Nat} (hok : drawOkS l hd tail iw = true) (hrun : HRun P B l.toArray st00 nx tmF nbF (pickOps l (hd.filter (fun i => i != iw))) tm0 []) (hN : (l.all (opOk B.N)) = true)
    (hst0 : ∀ n, nx ≤ n → lkB st0 n = none) (hst1 : ∀ n, nx ≤ n → lkB st1 n = none) (hs0 : ∀ n b, lkB st00 n = some b → lkB st0 n = some b) (hs1 : ∀ n b, lkB st00 n = some b → lkB st1 n = some b)
    (hwr : ∀ ow, l[iw]? = some ow → ∀ (tm : Nat → V) (σ : Nat → Option Blk) (fr : Nat → Prop) (E : Env) (a : Act), GamS P B σ fr E → GamT B tm E a → (∀ n, n < nx → σ n = lkB st0 n) → (∀ t ∈ ow.looksAt l.toArray, tm t = lkT tmF t) →
      Upon P (fun u w' => ∃ E', E'.w = w' ∧ GamS P B (fun n => if n < nx then lkB st1 n else σ n) fr E' ∧ Ext E E' ∧ E'.dp = E.dp) ((execOp a.eval ow).run P E.w))
    (hQ : ∀ E a, Gam P B ⟨tmF, nbF ++ st1, nx + l.length⟩ E a → wpListIn (fen B.r) 0 P l.toArray Q ((pickOps l tail).map (·.2)) a E.w) :
    ∀ (F : Nat) (listed : Array Bool) (E : Env) (a : Act), GInv .any l.toArray listed → (∀ t ∈ tail, listed.getD t false = false) → hd.countP (fun i => !listed.getD i false) = F →
      GamS P B (fun n => if nx ≤ n then (if listed.getD (n - nx) false = true then lkB nbF n else none) else if listed.getD iw false = true then lkB st1 n else lkB st0 n) (fun n => nx ≤ n ∧ (listed.getD (n - nx) false = true → lkB nbF n = none)) E →
      GamT B (fun t => if ((pickOps l (hd.filter (fun i => i != iw))).any fun p => p.2.dst == some t && listed.getD p.1 false) = true then lkT tmF t else lkT tm0 t) E a → wpAnyIn (fen B.r) 0 P .any l.toArray Q (F + tail.length) listed a E.w := by
  simp only [drawOkS, Bool.and_eq_true] at hok
  obtain ⟨⟨⟨⟨⟨⟨⟨⟨⟨⟨⟨hsink, htl⟩, hpart⟩, hlt⟩, hnd⟩, hedge⟩, hincr⟩, hdep⟩, hseq⟩, _⟩, hiwh⟩, hwok⟩ := hok
  have hiwh' : iw ∈ hd := by simpa using hiwh
  have hmN : ∀ {j : Nat}, j ∈ hd.filter (fun i => i != iw) ↔ j ∈ hd ∧ j ≠ iw := fun {j} => by simp [List.mem_filter]
  obtain ⟨f1, f2, f3⟩ := hrun_facts _ _ _ hincr hrun
  have hnd' : hd.Nodup := by simpa using hnd
  have htl' : ∀ t ∈ tail, hd.contains t = false := fun t ht => by have := List.all_eq_true.1 htl t ht; simpa using this
  intro F
  induction F with
  | zero =>
    intro listed E a inv hT hcnt hS hGT
    have hall : ∀ i ∈ hd, listed.getD i false = true := fun i hi => by
      have := List.countP_eq_zero.1 hcnt i hi
      simpa using this
    have hsz : listed.size = l.length := by rw [inv.size]; simp
    have hcan : listed = canonH l.length hd := by
      refine Array.ext_getElem? fun i => ?_
      have hcs := (foldl_canon hd (Array.replicate l.length false) i)
      have hcsz : (canonH l.length hd).size = l.length := by unfold canonH; rw [hcs.1]; simp
      by_cases hi : i < l.length
      · have e1 : listed[i]? = some (listed.getD i false) := by simp [Array.getD_eq_getD_getElem?, hsz, hi]
        have e2 : (canonH l.length hd)[i]? = some ((canonH l.length hd).getD i false) := by simp [Array.getD_eq_getD_getElem?, hcsz, hi]
        rw [e1, e2]
        congr 1
        unfold canonH
        rw [hcs.2]
        rw [getD_replicate_false]
        simp only [Array.size_replicate, Bool.false_or]
        by_cases hh : hd.contains i = true
        · rw [hh, hall i (by simpa using hh)]; simp [hi]
        · have := List.all_eq_true.1 hpart i (List.mem_range.2 hi)
          simp only [Bool.or_eq_true] at this
          rcases this with h | h
          · exact (hh h).elim
          · rw [hT i (by simpa using h)]; simp only [Bool.not_eq_true] at hh; rw [hh]; rfl
      · rw [Array.getElem?_eq_none (by omega), Array.getElem?_eq_none (by omega)]
    rw [Nat.zero_add]
    refine wpAnyIn_of_seqT tail listed a E.w (by rw [hcan]; exact hseq) (hQ E a ⟨hS.congr (fun n => ?_) (fun n hn => ?_), ⟨fun t => ?_, hGT.defers, hGT.size⟩⟩)
    · -- the blocks
      have hap : lkB (nbF ++ st1) n = match lkB nbF n with | some b => some b | none => lkB st1 n := by
        generalize nbF = nb
        induction nb with
        | nil => rfl
        | cons p nb ih =>
          obtain ⟨k, b⟩ := p
          simp only [List.cons_append, lkB]
          split
          · rfl
          · exact ih
      show lkB (nbF ++ st1) n = _
      rw [hap]
      by_cases hn : nx ≤ n
      · rw [if_pos hn]
        by_cases hh : hd.contains (n - nx) = true
        · rw [if_pos (hall _ (by simpa using hh)), hst1 n hn]; cases lkB nbF n <;> rfl
        · have : lkB nbF n = none := by
            rw [f2 n (fun p hp e => hh ?_)]; rfl
            have := (hmN.1 (pickOps_mem.1 hp).1).1
            rw [e, Nat.add_sub_cancel_left]; simpa using this
          rw [this, hst1 n hn]; simp
      · rw [if_neg hn, if_pos (hall iw hiwh')]
        have : lkB nbF n = none := by
          rw [f2 n (fun p hp e => by omega)]; rfl
        rw [this]
    · have hn' : nx + l.length ≤ n := hn
      refine ⟨by omega, fun h => ?_⟩
      rw [show listed.getD (n - nx) false = false by
        simp [Array.getD_eq_getD_getElem?, Array.getElem?_eq_none (show listed.size ≤ n - nx by omega)]] at h
      cases h
    · have := hGT.tm t
      show RV E (lkT tmF t) _
      by_cases hw : ((pickOps l (hd.filter (fun i => i != iw))).any fun p => p.2.dst == some t && listed.getD p.1 false) = true
      · rw [if_pos hw] at this; exact this
      · rw [if_neg hw] at this
        rw [f1 t (fun p hp e => hw (List.any_eq_true.2 ⟨p, hp, by simp [e, hall p.1 (hmN.1 (pickOps_mem.1 hp).1).1]⟩))]
        exact this
  | succ F ih =>
    intro listed E a inv hT hcnt hS hGT
    have hsz : listed.size = l.length := by rw [inv.size]; simp
    rw [show F + 1 + tail.length = (F + tail.length) + 1 by omega]
    -- an operation of the head that has not run
    obtain ⟨k, hk, hku⟩ : ∃ k, k ∈ hd ∧ listed.getD k false = false := by
      have : 0 < hd.countP (fun i => !listed.getD i false) := by omega
      obtain ⟨k, h1, h2⟩ := List.countP_pos_iff.1 this
      exact ⟨k, h1, by simpa using h2⟩
    have hkl : k < l.length := by have := List.all_eq_true.1 hlt k hk; simpa using this
    have hku' : listed.getD k true = false := getD_in (by omega) hku
    refine ⟨fun hr => ?_, fun i hi => ?_⟩
    · -- the least that has not run is ready
      obtain ⟨m, ⟨hm1, hm2⟩, hm3⟩ := exists_min (p := fun m => m < l.length ∧ listed.getD m false = false) ⟨k, hkl, hku⟩
      have : m ∈ Region.ready .any l.toArray listed := by
        refine mem_ready.2 ⟨getD_in (by omega) hm2, l[m], by simp [hm1], fun e he hb => ?_⟩
        have h1 := List.all_eq_true.1 hedge m (List.mem_range.2 hm1)
        rw [List.getElem?_eq_getElem hm1] at h1
        have h2 := List.all_eq_true.1 h1 e (by simpa using he)
        rw [hb] at h2
        simp at h2
        cases hc : listed.getD e.on false with
        | true => rfl
        | false => exact (hm3 e.on h2 ⟨by omega, hc⟩).elim
      rw [hr] at this
      cases this
    · have hih := sink_spec hsink inv (i := k) (by simpa using hkl) (by simpa using hk) hku' hi
      have hi' : i ∈ hd := by simpa using hih
      obtain ⟨hiun, o, ho, hafter⟩ := mem_ready.1 hi
      have hol : l[i]? = some o := by simpa using ho
      have hil : i < l.length := (List.getElem?_eq_some_iff.1 hol).1
      have hiun' := getD_both hiun
      have hopk := List.all_eq_true.1 hN o (List.mem_of_getElem? hol)
      have inv2 := inv.set hi
      have hself : (listed.setIfInBounds i true).getD i false = true := by simp [hsz, hil]
      have hoth : ∀ j, j ≠ i → (listed.setIfInBounds i true).getD j false = listed.getD j false := fun j hj => getD_set_ne false (Ne.symm hj)
      have hT2 : ∀ t ∈ tail, (listed.setIfInBounds i true).getD t false = false := fun t ht => by
        rw [hoth t (fun e => by have := htl' t ht; rw [e] at this; rw [this] at hih; cases hih)]; exact hT t ht
      have hcnt2 : hd.countP (fun j => !(listed.setIfInBounds i true).getD j false) = F := by
        have := countP_set hnd' hi' (f := fun j => !listed.getD j false) (g := fun j => !(listed.setIfInBounds i true).getD j false) (by simp [hiun']) (by simp [hself]) (fun j hj => by rw [hoth j hj])
        omega
      by_cases hiw : i = iw
      · -- the write
        subst hiw
        rw [hol] at hwok
        simp only [Bool.and_eq_true] at hwok
        obtain ⟨⟨hwd, hwg⟩, hwl⟩ := hwok
        have hwd' : o.dst = none := by simpa using hwd
        have hwg' : o.guard = none := by simpa using hwg
        have hag : ∀ t ∈ o.looksAt l.toArray, (if ((pickOps l (hd.filter (fun j => j != i))).any fun p => p.2.dst == some t && listed.getD p.1 false) = true then lkT tmF t else lkT tm0 t) = lkT tmF t := fun t ht => by
          by_cases hw : ((pickOps l (hd.filter (fun j => j != i))).any fun p => p.2.dst == some t && listed.getD p.1 false) = true
          · rw [if_pos hw]
          · rw [if_neg hw]
            refine (f1 t (fun q hq hqt => hw (List.any_eq_true.2 ⟨q, hq, ?_⟩))).symm
            have h1 := List.all_eq_true.1 (List.all_eq_true.1 hwl t ht) q hq
            simp only [Bool.or_eq_true, bne_iff_ne, ne_eq] at h1
            rcases h1 with h | h
            · exact (h hqt).elim
            · have := reach_listed inv _ _ _ h (fun o' ho' e he hb => by
                have : o' = o := Option.some.inj (ho'.symm.trans ho)
                subst this
                exact hafter e he hb)
              simp [hqt, this]
        have hw : Region.wanted o (yielded l.toArray a.tmps) = true := by simp [Region.wanted, hwg']
        have h1 := hwr o hol _ _ _ E a hS hGT (fun n hn => by rw [if_neg (by omega), hiun', if_neg (by simp)]) hag
        unfold wpOpIn
        simp only [ho, hw, if_true]
        refine h1.wpIn ?_
        rintro u w' ⟨E', rfl, hS', hext, hdp⟩
        rw [hwd']
        refine ih _ E' _ inv2 hT2 hcnt2 (hS'.congr (fun n => ?_) (fun n hn => ⟨hn.1, fun h => hn.2 (getD_set_true h)⟩)) ⟨fun t => ?_, ((hGT.ext hext hdp)).defers, hGT.size⟩
        · by_cases hn : nx ≤ n
          · have h3 : ¬ n < nx := by omega
            simp only [if_pos hn, if_neg h3]
            by_cases hni : n - nx = i
            · have hn' : n = nx + i := by omega
              have : lkB nbF n = none := by
                rw [f2 n (fun p hp e => by
                  have := (hmN.1 (pickOps_mem.1 hp).1).2
                  omega)]; rfl
              rw [this]
              simp
            · rw [hoth _ hni]
          · have h3 : n < nx := by omega
            simp only [if_neg hn, if_pos h3, if_pos hself]
        · have := (hGT.ext hext hdp).tm t
          have e : ((pickOps l (hd.filter (fun j => j != i))).any fun p => p.2.dst == some t && (listed.setIfInBounds i true).getD p.1 false) = ((pickOps l (hd.filter (fun j => j != i))).any fun p => p.2.dst == some t && listed.getD p.1 false) := by
            rw [Bool.eq_iff_iff, List.any_eq_true, List.any_eq_true]
            constructor
            · rintro ⟨p, hp, h⟩
              rw [hoth p.1 (hmN.1 (pickOps_mem.1 hp).1).2] at h
              exact ⟨p, hp, h⟩
            · rintro ⟨p, hp, h⟩
              refine ⟨p, hp, ?_⟩
              rw [hoth p.1 (hmN.1 (pickOps_mem.1 hp).1).2]
              exact h
          rw [e]
          exact this
      have hmem : (i, o) ∈ pickOps l (hd.filter (fun i => i != iw)) := pickOps_mem.2 ⟨hmN.2 ⟨hi', hiw⟩, hol⟩
      obtain ⟨tmi, v, x, g1, g2, g3, g4, g5⟩ := f3 (i, o) hmem
      simp only at g1 g2 g3 g4 g5
      have g3 := g3 rfl
      -- what it looks at is as it was evaluated
      have hag : ∀ t ∈ o.looksAt l.toArray, (if ((pickOps l (hd.filter (fun i => i != iw))).any fun p => p.2.dst == some t && listed.getD p.1 false) = true then lkT tmF t else lkT tm0 t) = tmi t := fun t ht => by
        have hd1 := List.all_eq_true.1 hdep (i, o) hmem
        have hd2 := List.all_eq_true.1 hd1 t ht
        by_cases hw : ((pickOps l (hd.filter (fun i => i != iw))).any fun p => p.2.dst == some t && listed.getD p.1 false) = true
        · rw [if_pos hw]
          obtain ⟨q, hq, hq2⟩ := List.any_eq_true.1 hw
          simp only [Bool.and_eq_true, beq_iff_eq] at hq2
          have hd3 := List.all_eq_true.1 hd2 q hq
          simp only [Bool.or_eq_true, bne_iff_ne, ne_eq] at hd3
          rcases hd3 with h | h
          · exact (h hq2.1).elim
          · by_cases hlt2 : q.1 < i
            · exact (g4 t q hq hlt2 hq2.1).symm
            · rw [if_neg hlt2] at h
              simp only [Bool.and_eq_true, decide_eq_true_eq] at h
              have := reach_listed inv _ _ _ h.2 (fun o' ho' e he hb => inv.closed q.1 o' ho' hq2.2 e he hb)
              rw [hiun'] at this
              cases this
        · rw [if_neg hw]
          refine (g5 t (fun q hq hql hqt => hw (List.any_eq_true.2 ⟨q, hq, ?_⟩))).symm
          have hd3 := List.all_eq_true.1 hd2 q hq
          simp only [Bool.or_eq_true, bne_iff_ne, ne_eq] at hd3
          rcases hd3 with h | h
          · exact (h hqt).elim
          · rw [if_pos hql] at h
            have := reach_listed inv _ _ _ h (fun o' ho' e he hb => by
              have : o' = o := Option.some.inj (ho'.symm.trans ho)
              subst this
              exact hafter e he hb)
            simp [hqt, this]
      have hst : ∀ n b, lkB st00 n = some b → (if nx ≤ n then (if listed.getD (n - nx) false = true then lkB nbF n else none) else if listed.getD iw false = true then lkB st1 n else lkB st0 n) = some b := fun n b hb => by
        by_cases hn : nx ≤ n
        · have := hs0 n b hb; rw [hst0 n hn] at this; cases this
        · rw [if_neg hn]
          split
          · exact hs1 n b hb
          · exact hs0 n b hb
      obtain ⟨h1, h2⟩ := g1 _ _ _ E a hS hGT ⟨by omega, fun h => by rw [Nat.add_sub_cancel_left, hiun'] at h; cases h⟩ hst hag
      have hoiw : (listed.setIfInBounds i true).getD iw false = listed.getD iw false := hoth iw (fun e => hiw e.symm)
      have hσ2 : ∀ n, (if nx ≤ n then (if (listed.setIfInBounds i true).getD (n - nx) false = true then lkB nbF n else none) else if (listed.setIfInBounds i true).getD iw false = true then lkB st1 n else lkB st0 n) = if n = nx + i then x else (if nx ≤ n then (if listed.getD (n - nx) false = true then lkB nbF n else none) else if listed.getD iw false = true then lkB st1 n else lkB st0 n) := fun n => by
        by_cases hn : n = nx + i
        · subst hn
          rw [if_pos rfl, if_pos (by omega), Nat.add_sub_cancel_left, if_pos hself, g3]
        · rw [if_neg hn]
          by_cases hn2 : nx ≤ n
          · rw [if_pos hn2, if_pos hn2, hoth (n - nx) (by omega)]
          · rw [if_neg hn2, if_neg hn2, hoiw]
      have hfr2 : ∀ n, (nx ≤ n ∧ ((listed.setIfInBounds i true).getD (n - nx) false = true → lkB nbF n = none)) → (nx ≤ n ∧ (listed.getD (n - nx) false = true → lkB nbF n = none)) ∧ (x.isSome = true → n ≠ nx + i) := fun n hn => by
        refine ⟨⟨hn.1, fun h => hn.2 (getD_set_true h)⟩, fun hx e => ?_⟩
        subst e
        have := hn.2 (by rw [Nat.add_sub_cancel_left]; exact hself)
        rw [g3] at this
        rw [this] at hx
        cases hx
      have htm2 : ∀ t, (if ((pickOps l (hd.filter (fun i => i != iw))).any fun p => p.2.dst == some t && (listed.setIfInBounds i true).getD p.1 false) = true then lkT tmF t else lkT tm0 t) = if o.dst = some t then v else (if ((pickOps l (hd.filter (fun i => i != iw))).any fun p => p.2.dst == some t && listed.getD p.1 false) = true then lkT tmF t else lkT tm0 t) := fun t => by
        by_cases hd1 : o.dst = some t
        · rw [if_pos hd1, if_pos (List.any_eq_true.2 ⟨(i, o), hmem, by simp [hd1, hself]⟩), g2 t hd1]
        · rw [if_neg hd1]
          have : ((pickOps l (hd.filter (fun i => i != iw))).any fun p => p.2.dst == some t && (listed.setIfInBounds i true).getD p.1 false) = ((pickOps l (hd.filter (fun i => i != iw))).any fun p => p.2.dst == some t && listed.getD p.1 false) := by
            rw [Bool.eq_iff_iff, List.any_eq_true, List.any_eq_true]
            constructor
            · rintro ⟨p, hp, h⟩
              simp only [Bool.and_eq_true, beq_iff_eq] at h
              have hpi : p.1 ≠ i := fun e => by
                have := (pickOps_mem.1 hp).2
                rw [e, hol] at this
                injection this with this
                rw [← this] at h
                exact hd1 h.1
              rw [hoth p.1 hpi] at h
              exact ⟨p, hp, by simp [h.1, h.2]⟩
            · rintro ⟨p, hp, h⟩
              simp only [Bool.and_eq_true, beq_iff_eq] at h
              exact ⟨p, hp, by simp [h.1, getD_set_true h.2]⟩
          rw [this]
      have hdN : ∀ t, o.dst = some t → t < B.N := fun t e => by
        have : (match o.dst with | some d => decide (d < B.N) | none => true) = true := by
          simp only [opOk, Bool.and_eq_true] at hopk; exact hopk.2
        rw [e] at this
        simpa using this
      unfold wpOpIn
      simp only [ho]
      cases hw : Region.wanted o (yielded l.toArray a.tmps) with
      | true =>
        rw [if_pos rfl]
        refine (h1 hw).wpIn ?_
        rintro u w' ⟨E', rfl, hS', hext, hdp, hv⟩
        exact ih _ E' _ inv2 hT2 hcnt2 (hS'.congr hσ2 hfr2) ((hGT.ext hext hdp).putF (fun t e => ⟨hv, hdN t e⟩) htm2)
      | false =>
        rw [if_neg (by simp)]
        obtain ⟨rfl, hv⟩ := h2 hw
        have hσn : ∀ n, (if n = nx + i then none else (if nx ≤ n then (if listed.getD (n - nx) false = true then lkB nbF n else none) else if listed.getD iw false = true then lkB st1 n else lkB st0 n)) = (if nx ≤ n then (if listed.getD (n - nx) false = true then lkB nbF n else none) else if listed.getD iw false = true then lkB st1 n else lkB st0 n) := fun n => by
          by_cases hn : n = nx + i
          · subst hn; rw [if_pos rfl, if_pos (by omega), Nat.add_sub_cancel_left, hiun', if_neg (by simp)]
          · rw [if_neg hn]
        exact ⟨fun _ _ => trivial, ih _ E _ inv2 hT2 hcnt2 (hS.congr (fun n => (hσ2 n).trans (hσn n)) (fun n hn => (hfr2 n hn).1)) (hGT.putF (fun t e => ⟨hv, hdN t e⟩) htm2)⟩
/-- the early write, evaluated -/
def earlyK (T : Tab) (o : Option Oper) (n : Nat) (tm : List (Nat × V)) (st : List (Nat × Blk)) (K : List (Nat × Blk) → Prop) : Prop := match o with
  | some o => match o.op with
    | .store t x y => match ty T t, ev (lkT tm) x with
      | some i, .ptr m off => match lkB st n, vcells (ev (lkT tm) y) with
        | some (.cells t' cs), some vs => m = n ∧ vs.length = i.sz ∧ off + i.sz ≤ cs.length ∧ K (setB n (.cells t' (splice cs off vs)) st)
        | _, _ => False
      | _, _ => False
    | _ => False
  | none => False
theorem early_ok (hT : TabOk P T) {l : List Oper} {iw n nx : Nat} {tm : List (Nat × V)} {st : List (Nat × Blk)} {K : List (Nat × Blk) → Prop} (hN : (l.all (opOk B.N)) = true) (hst : ∀ m, nx ≤ m → lkB st m = none) (h : earlyK T l[iw]? n tm st K) :
    ∃ st1, K st1 ∧ (∀ m, nx ≤ m → lkB st1 m = none) ∧ (∀ m, m ≠ n → lkB st1 m = lkB st m) ∧ ∀ ow, l[iw]? = some ow → ∀ (tm' : Nat → V) (σ : Nat → Option Blk) (fr : Nat → Prop) (E : Env) (a : Act), GamS P B σ fr E → GamT B tm' E a → (∀ n, n < nx → σ n = lkB st n) → (∀ t ∈ ow.looksAt l.toArray, tm' t = lkT tm t) →
      Upon P (fun u w' => ∃ E', E'.w = w' ∧ GamS P B (fun n => if n < nx then lkB st1 n else σ n) fr E' ∧ Ext E E' ∧ E'.dp = E.dp) ((execOp a.eval ow).run P E.w) := by
  unfold earlyK at h
  split at h <;> try exact h.elim
  rename_i o hol
  split at h <;> try exact h.elim
  rename_i t x y hop
  split at h <;> try exact h.elim
  rename_i i m off hi hx
  split at h <;> try exact h.elim
  rename_i t' cs vs hn hy
  obtain ⟨rfl, hsz, hoff, hK⟩ := h
  have hlt : m < nx := by
    rcases Nat.lt_or_ge m nx with h | h
    · exact h
    · rw [hst m h] at hn; cases hn
  refine ⟨_, hK, fun k hk => ?_, fun k hk => by rw [lkB_setB, if_neg hk], fun ow how tm' σ fr E a hS hGT hσ hag => ?_⟩
  · rw [lkB_setB, if_neg (by omega)]; exact hst k hk
  · rw [hol] at how
    cases how
    have hok := List.all_eq_true.1 hN o (List.mem_of_getElem? hol)
    have hm := opOk_mem hok
    have hxo : x ∈ o.op.operands := by simp [hop, Op.operands]
    have hyo : y ∈ o.op.operands := by simp [hop, Op.operands]
    have rx := ev_ok hGT x (hm x hxo)
    have ry := ev_ok hGT y (hm y hyo)
    rw [ev_congr (ops := l.toArray) hag hxo, hx] at rx
    rw [ev_congr (ops := l.toArray) hag hyo] at ry
    simp only [RV] at rx
    obtain ⟨b, hb1, hb2⟩ := rx
    obtain ⟨us, g1, g2, g3⟩ := vcells_ok hy ry
    have hσm : σ m = some (.cells t' cs) := by rw [hσ m hlt, hn]
    obtain ⟨b', cur, k1, k2, k3, k4, k5⟩ := hS.st m _ hσm
    rw [hb1] at k1
    cases k1
    have hl1 := g2.len
    have hl2 := k3.len
    obtain ⟨f1, f2, f3, f4, f5⟩ := setCells_facts b us off E.w
    have hrun := st_run (P := P) (w := E.w) (b := b) (o := off) (ty_ok hT hi) g1 g3 (by omega) (there_of k2 (by omega))
    have hW := GamS.write (x := .cells t' cs) (x' := .cells t' (splice cs off vs)) (σ' := fun k => if k < nx then lkB (setB m (.cells t' (splice cs off vs)) st) k else σ k) (w' := E.w.setCells b off us) hS hσm (fun k => by
      by_cases hk : k < nx
      · simp only [if_pos hk, lkB_setB]
        by_cases hkm : k = m
        · rw [if_pos hkm, if_pos hkm]
        · rw [if_neg hkm, if_neg hkm, hσ k hk]
      · simp only [if_neg hk]
        rw [if_neg (by omega)]) hb1 rfl (fun o' ho' => (k5.2.2.2 o' ho').elim) f1 f2 f3 f4 f5 (fun E' hE' hext hok => by
      subst hE'
      refine ⟨b, spliceU cur off us, hb1, setCells_splice k2 (by omega), RVL.splice (RVL.mono hext _ _ k3) (RVL.mono hext _ _ g2), fun u hu => ?_, hok⟩
      unfold spliceU at hu
      rcases List.mem_append.1 hu with hu | hu
      · rcases List.mem_append.1 hu with hu | hu
        · exact k4 u (List.mem_of_mem_take hu)
        · exact g3 u hu
      · exact k4 u (List.mem_of_mem_drop hu))
    have hr : (execOp a.eval o).run P E.w = .ok .skip (E.w.setCells b off us) := by simp [execOp, hop, hb2, hrun]
    rw [hr]
    exact ⟨_, rfl, hW.1, hW.2, rfl⟩
/-- a token; what comes behind the heads, kept from simp till they have run -/
structure TokH (K : List (Nat × V) → List (Nat × Blk) → Prop) : Type where
def fin2 (K : List (Nat × V) → List (Nat × Blk) → Prop) (_ : TokH K) (tm : List (Nat × V)) (nb : List (Nat × Blk)) : Prop := K tm nb
theorem fin2_intro {K : List (Nat × V) → List (Nat × Blk) → Prop} {tm : List (Nat × V)} {nb : List (Nat × Blk)} (h : K tm nb) : fin2 K ⟨⟩ tm nb := h
def tailX (iw : Nat) : Nat → List Oper → List Oper
  | _, [] => []
  | k, o :: l => match isT o.op, k == iw with
    | true, false => o :: tailX iw (k + 1) l
    | _, _ => tailX iw (k + 1) l
theorem tailX_eq (iw : Nat) : ∀ (l pre : List Oper), (pickOps (pre ++ l) ((tailIdx pre.length l).filter (fun i => i != iw))).map (·.2) = tailX iw pre.length l
  | [], pre => rfl
  | o :: l, pre => by
    have ih := tailX_eq iw l (pre ++ [o])
    simp only [List.append_assoc, List.cons_append, List.nil_append, List.length_append, List.length_cons, List.length_nil, Nat.zero_add] at ih
    have hg : (pre ++ o :: l)[pre.length]? = some o := by simp
    cases ht : isT o.op <;> simp only [tailIdx, tailX, ht]
    · exact ih
    · cases hk : (pre.length == iw)
      · rw [List.filter_cons_of_pos (by simpa using hk)]
        simp only [pickOps, hg, List.map_cons]
        rw [ih]
      · rw [List.filter_cons_of_neg (by simpa using hk)]
        exact ih
/-- such a region: the write with index iw, to the variable named n, may come early -/
theorem aw_drawnS (iw n : Nat) {id : Nat} {ops : Array Oper} {s : St} {Q : AQ} (hT : TabOk P T) (hm : P.follows .mixedOrders = true) (hl : (ops.toList.all (opOk B.N)) = true) (hok : drawOkS ops.toList (iw :: headIdx 0 ops.toList) ((tailIdx 0 ops.toList).filter (fun i => i != iw)) iw = true)
    (hh : (iw :: headIdx 0 ops.toList).filter (fun i => i != iw) = headIdx 0 ops.toList)
    (h : hwp P T ops (delB n s.st) s.nx (headOps 0 ops.toList) s.tm [] (fin2 (fun tm nb => earlyK T ops.toList[iw]? n tm s.st (fun st1 => rwp P B T ops (tailX iw 0 ops.toList) ⟨tm, nb ++ st1, s.nx + ops.toList.length⟩ (Q .normal))) ⟨⟩)) : AW P B (.region id ops true) Q ⟨⟩ s := fun E a hG => by
  obtain ⟨l, rfl⟩ : ∃ l : List Oper, ops = l.toArray := ⟨ops.toList, by simp⟩
  simp only [List.toList_toArray] at hl hok hh h
  have hops0 : ∀ o ∈ l.toArray.toList, opOk B.N o = true := fun o ho => List.all_eq_true.1 hl o (by simpa using ho)
  have e1 := headOps_eq l []
  have e2 := tailX_eq iw l []
  simp only [List.nil_append, List.length_nil] at e1 e2
  have hc : ((headOps 0 l).all fun p => p.2.op.operands.toList.all (constOk B.N)) = true := List.all_eq_true.2 fun p hp => by
    rw [← e1] at hp
    have := List.all_eq_true.1 hl p.2 (List.mem_of_getElem? (pickOps_mem.1 hp).2)
    simp only [opOk, Bool.and_eq_true] at this
    exact this.1
  obtain ⟨tmF, nbF, hK, hrun⟩ := hwp_ok (B := B) hT hops0 _ _ _ hc h
  have hG' := gam_drew hG
  have hst0 : ∀ n, s.nx ≤ n → lkB s.st n = none := fun n hn => hG.1.none_of_fresh hn
  unfold fin2 at hK
  obtain ⟨st1, hK1, hst1, hoth, hwr⟩ := early_ok (B := B) hT hl hst0 hK
  refine wpIn_region_any hm ?_
  have htail : ((pickOps l ((tailIdx 0 l).filter (fun i => i != iw))).map (·.2)).all (opOk B.N) = true := List.all_eq_true.2 fun o ho => by
    obtain ⟨p, hp, rfl⟩ := List.mem_map.1 ho
    exact List.all_eq_true.1 hl p.2 (List.mem_of_getElem? (pickOps_mem.1 hp).2)
  rw [← e1, ← hh] at hrun
  have := wpAny_headsS (Q := AQQ P B Q) hok hrun hl hst0 hst1 (fun m b hb => by rw [lkB_delB] at hb; split at hb; cases hb; exact hb) (fun m b hb => by
    rw [lkB_delB] at hb
    split at hb
    · cases hb
    · rename_i hmn; rw [hoth m hmn]; exact hb) hwr (fun E a hG => rwp_list hT hops0 _ _ _ htail (by rw [e2]; exact hK1) (fun s' hs E a hG => ⟨E, s', rfl, hG, hs⟩) E a hG) (iw :: headIdx 0 l).length (Array.replicate l.toArray.size false) ⟨E.η, E.F, { E.w with drawn := E.w.drawn + 1 }, E.dp⟩ a
    ⟨by simp, fun j oj _ hl => (by rw [getD_replicate_false] at hl; cases hl)⟩ (fun t _ => getD_replicate_false _ _) (by
      rw [List.countP_eq_length]; intro i _; rw [getD_replicate_false]; rfl)
    (hG'.1.congr (fun n => by
      rw [getD_replicate_false, getD_replicate_false]
      by_cases hn : s.nx ≤ n
      · rw [if_pos hn, if_neg (by simp), hst0 n hn]
      · rw [if_neg hn, if_neg (by simp)]) (fun n hn => hn.1))
    ⟨fun t => by
      have : ((pickOps l ((iw :: headIdx 0 l).filter (fun i => i != iw))).any fun p => p.2.dst == some t && (Array.replicate l.toArray.size false).getD p.1 false) = false := by
        rw [List.any_eq_false]; intro p _; rw [getD_replicate_false]; simp
      rw [this, if_neg (by simp)]
      exact hG'.2.tm t, hG'.2.defers, hG'.2.size⟩
  have hlen : (iw :: headIdx 0 l).length + ((tailIdx 0 l).filter (fun i => i != iw)).length = l.length := by
    simp only [drawOkS, Bool.and_eq_true, decide_eq_true_eq] at hok
    exact hok.1.1.2
  rw [hlen] at this
  simpa using this
end
end Go.Proofs.Ytfmefdeldgmhpaa

namespace Go.Proofs.Ytfmefdeldgmhpaa
set_option linter.unusedSimpArgs false
set_option linter.unusedVariables false
open Go.RowKit
def intD (x : Int) : List D := [.c (.int .i64 x)]
theorem intD_len (x : Int) : (dV (intD x)).length = 1 := rfl
theorem intD_take (x : Int) : (dV (intD x)).take 1 = dV (intD x) := rfl
theorem intD_ln (x : Int) : (intD x).length = 1 := rfl
theorem intD_hd (x : Int) : (dV (intD x)).head? = some (.d (.c (.int .i64 x))) := rfl
theorem intD_ic (x : Int) : icells (dV (intD x)) = some [x] := rfl
def boolV (b : Bool) : V := .d (.c (.bool b))
theorem upM_bool (c : List Int) (y : Bool) (m : AM Bool) : upM c (.d (.c (.bool y))) (mpV boolV m) = mpV boolV (upA c y m) := upM_mpV boolV c y m
theorem lkM_bool (c : List Int) (m : AM Bool) : lkM c (mpV boolV m) = (lkA c m).map boolV := lkM_mpV boolV c m
theorem subV_bool (ρ : Ren) (b : Bool) : subV ρ (boolV b) (boolV b) := rfl
theorem vD_nil : vD nilD = .d nilD := rfl
theorem lk_desk' (κ : Int) (xs : List Ent) : (lkM [κ] (zipM ((ordK xs).map fun κ => [κ]) ((ordK xs).map fun κ => rowD κ xs))).getD (.d nilD) = .d (.mp .i 3 zE (.ag (entD default)) ((rowK κ xs).map (·.1)) ((rowK κ xs).map fun p => .ag (entD p.2))) := lk_desk κ xs
theorem snocI (l : List Int) (p : Int) : l.map intD ++ [[.c (.int .i64 p)]] = (l ++ [p]).map intD := by simp [intD]
set_option maxRecDepth 100000
set_option maxHeartbeats 4000000
abbrev aIs (l : List Int) : A := .one (.sl 1 (intD 0) (l.map intD))
theorem clip_spec (l : List Int) : Spec Try.prog 48 [aIs l] (.r1 (aIs l)) := by
  refine spec_of T_ok Try.func48 (by dsimp only [Try.f48]) rfl rfl (by simp) fun w F => ?_
  repeat' (first
    | (with_reducible refine aw_seq ?_)
    | ((with_reducible refine twoG_intro ?_ ?_) <;> intro hTw <;> first | (exact Bool.noConfusion hTw) | ((try simp only [hTw, Bool.not_true, Bool.not_false, Bool.true_and, Bool.false_and, Bool.and_true, Bool.and_false, Bool.true_or, Bool.false_or, Bool.or_true, Bool.or_false]); (first | (guard_hyp hTw : true = true; clear hTw) | (guard_hyp hTw : false = false; clear hTw) | (revert hTw; intro _))))
    | ((with_reducible refine two_intro ?_ ?_) <;> intro hTw <;> first | (exact Bool.noConfusion hTw) | ((first | (guard_hyp hTw : true = true; clear hTw) | (guard_hyp hTw : false = false; clear hTw) | (revert hTw; intro _))))
    | ((with_reducible refine And.intro ?_ ?_); (focus (first | exact keyOk_int_ | omega | rfl | decide | grind)))
    | (with_reducible refine aw_block ?_)
    | (with_reducible refine aw_scope ?_)
    | ((first
        | ((with_reducible refine aw_regionA T_ok ?_ ?_); (focus kernel_rfl))
        | ((with_reducible refine aw_drawnA T_ok ?_ ?_ ?_ ?_); (focus kernel_rfl); (focus kernel_rfl); (focus kernel_rfl))
        | (with_reducible refine aw_label ?_)
        | ((with_reducible refine aw_rfM ?_ ?_); (focus kernel_rfl))
        | (with_reducible refine aw_skip ?_)
        | (with_reducible refine aw_exit ?_)
        | ((with_reducible refine aw_condM ?_ ?_); (focus kernel_rfl))
        | (with_reducible refine aw_ret ?_)
      ); simp only [↓rwp.eq_def, ↓sop.eq_def, ↓slotK.eq_def, inV, shT, unT, inQ, rfQ, rfEnd, resOf, pickT, setP, ydA, ydQ, rowW, vD, fillV,  ↓gop.eq_def, ↓hop.eq_def, ↓hopH.eq_def, ↓hwp.eq_def, ↓ldV.eq_def, ↓ldK.eq_def, ↓ixK.eq_def, ↓addOff.eq_def, ↓exK.eq_def, ↓notK.eq_def, ↓pickK.eq_def, ↓iop2.eq_def, ↓binK.eq_def, ↓eqop.eq_def, icells, ↓iop.eq_def, ↓cutK.eq_def, ↓lenK.eq_def, ↓lenM.eq_def, tyInt, ↓lookK.eq_def, ↓mpK.eq_def, keyV, allI, fitK, lkM, upM, dlM, kq, ↓cvK.eq_def, ↓mmK.eq_def, ↓biK.eq_def, ↓stK.eq_def, ↓apK.eq_def, ↓apD.eq_def, ↓apS.eq_def, nxt, put, setT, setB, delB, lkT_n, lkT_c, lkB_n, lkB_c, ev, ofC, inT, ofA, ofRet, dV_n, dV_c, getD_enc, toDs_dV, List.head?_cons, List.length_map, Option.toArray_some, Option.toArray_none, Int.toNat_natCast, slOf, TyK.agg, vcells, splice, strip, stripP, gOf, allP, rowV, toDs, toD, toA, toAs, headOps, tailOps, isT, addN, Op.operands, Call.operands, List.map_cons, List.map_nil, List.drop_zero, List.drop_succ_cons, List.take_succ_cons, List.take_zero, List.length_cons, List.length_nil, List.getElem?_cons_zero, List.getElem?_cons_succ, List.getElem?_toArray, Option.bind_some, Option.map_some, Option.map_none, List.append_nil, List.nil_append, List.cons_append, if_true, if_false, reduceIte, Nat.reduceEqDiff, Nat.reduceAdd, Nat.reduceSub, Int.reduceToNat, Nat.reduceLeDiff, Nat.reduceLT, and_false, and_self, Nat.zero_add, Nat.add_zero, reduceCtorEq, Option.getD_some, Option.getD_none, Option.isSome_some, Option.isSome_none, forall_const, true_and, and_true, true_implies, Bool.true_and, Bool.false_and, Bool.and_true, Bool.and_false, Bool.true_or, Bool.false_or, Bool.or_true, Bool.or_false, beq_self_eq_true, zipM, zcells, Value.cells, Value.oneCell', List.toList_toArray, Array.toList_append, Bool.not_not, List.cons.injEq, Int.reduceEq, eq_self, false_and, Bool.not_true, Bool.not_false, ne_eq, not_false_eq_true, imp_self, implies_true, av_bt, av_bf, av_and, av_or, av_nf, av_tt, av_n1, av_n2, av_t1, av_tp, retQ, retL, resV, RetV, RetOk, SubL, ↓earlyK.eq_def, tailX, Nat.reduceBEq, entD_len, entD_take, entD_hd, entD_ln, entD_ic, entD_d1, entD_d2, entD_d3, entD_d4, entD_d5, entD_d6, entD_d7, intD_len, intD_take, intD_hd, intD_ln, intD_ic, snocI, ty_39, ty_3, ty_22, ty_56, ty_63, ty_86, ty_30, ty_4, lkM_bool, upM_bool, boolV, entV, deskD, ↓vD_nil, lk_desk', lk_row]; try simp (disch := omega) only [av_w, av_t1, av_tp, Int.toNat_natCast]))
  exact Sub.sl (List.take_of_length_le (by simp))
theorem hopen_spec2 (l : List Ent) (person day time : Int) (hl : l.length ≤ 140737488351232) (hk : ∀ k, i64 (l.getD k default).kind) (xs : List Ent) (hxs : xs = if errO l person day time = 0 then standE l day time else []) : Spec Try.prog 37 [aEs l, aI person, aI day, aI time] (.rt [.one (deskD xs), aI (errO l person day time)]) := by
  subst hxs
  exact hopen_spec l person day time hl hk
def agentsL (l : List Ent) (person day time : Int) : List Int := if errO l person day time = 0 then (askedL (standE l day time) person).1 else []
theorem hagents_spec (l : List Ent) (person day time : Int) (hl : l.length ≤ 140737488351232) (hk : ∀ k, i64 (l.getD k default).kind) : Spec Try.prog 19 [aEs l, aI person, aI day, aI time] (.rt [aIs (agentsL l person day time), aI (errO l person day time)]) := by
  refine spec_of T_ok Try.func19 (by dsimp only [Try.f19]) rfl rfl (by simp) fun w F => ?_
  by_cases hE : errO l person day time = 0
  · obtain ⟨he, hpb⟩ := errO_ok hE
    have hv := stand_valid he
    have hl2 := stand_len l day time
    have hl3 := stand_small he
    obtain ⟨xs, hxs⟩ : ∃ xs, xs = standE l day time := ⟨_, rfl⟩
    have hSp := hopen_spec2 l person day time hl hk xs (by rw [if_pos hE, hxs])
    rw [← hxs] at hv hl2
    repeat' (first
      | (with_reducible refine aw_seq ?_)
      | ((with_reducible refine twoG_intro ?_ ?_) <;> intro hTw <;> first | (exact Bool.noConfusion hTw) | ((try simp only [hTw, Bool.not_true, Bool.not_false, Bool.true_and, Bool.false_and, Bool.and_true, Bool.and_false, Bool.true_or, Bool.false_or, Bool.or_true, Bool.or_false]); (first | (guard_hyp hTw : true = true; clear hTw) | (guard_hyp hTw : false = false; clear hTw) | (revert hTw; intro _))))
      | ((with_reducible refine two_intro ?_ ?_) <;> intro hTw <;> first | (exact Bool.noConfusion hTw) | ((first | (guard_hyp hTw : true = true; clear hTw) | (guard_hyp hTw : false = false; clear hTw) | (revert hTw; intro _))))
      | ((with_reducible refine And.intro ?_ ?_); (focus (first | exact keyOk_int_ | omega | rfl | decide | grind)))
      | (with_reducible refine aw_block ?_)
      | (with_reducible refine aw_scope ?_)
      | ((first
          | ((with_reducible refine aw_regionA T_ok ?_ ?_); (focus kernel_rfl))
          | ((with_reducible refine aw_drawnA T_ok ?_ ?_ ?_ ?_); (focus kernel_rfl); (focus kernel_rfl); (focus kernel_rfl))
          | ((with_reducible refine callK_intro (hSp) (by with_unfolding_all rfl) ?_ ?_); (focus kernel_rfl))
          | ((with_reducible refine callI_spec (hSp) (by with_unfolding_all rfl) ?_ ?_ ?_); (focus kernel_rfl); (focus kernel_rfl))
          | ((with_reducible apply callI_in T_ok Try.func38); (focus (dsimp only [Try.f38])); (focus rfl); (focus rfl); (focus kernel_rfl); (focus exact of_decide_eq_true (by kernel_rfl)); (focus kernel_rfl); (focus kernel_rfl); intro _)
          | ((with_reducible apply rfI_in Try.func58); (focus (dsimp only [Try.f58])); (focus (dsimp only [Base.inn, Base.inr])); (focus rfl); (focus rfl); (focus kernel_rfl); (focus exact of_decide_eq_true (by kernel_rfl)); (focus kernel_rfl); intro aL L hLp hLa hLb hLt)
          | (with_reducible refine aw_label ?_)
          | ((with_reducible refine aw_rfM ?_ ?_); (focus kernel_rfl))
          | (with_reducible refine aw_skip ?_)
          | (with_reducible refine aw_exit ?_)
          | ((with_reducible refine aw_condM ?_ ?_); (focus kernel_rfl))
          | (with_reducible refine aw_ret ?_)
        ); simp only [↓rwp.eq_def, ↓sop.eq_def, ↓slotK.eq_def, inV, shT, unT, inQ, rfQ, rfEnd, resOf, pickT, setP, ydA, ydQ, rowW, vD, fillV,  ↓gop.eq_def, ↓hop.eq_def, ↓hopH.eq_def, ↓hwp.eq_def, ↓ldV.eq_def, ↓ldK.eq_def, ↓ixK.eq_def, ↓addOff.eq_def, ↓exK.eq_def, ↓notK.eq_def, ↓pickK.eq_def, ↓iop2.eq_def, ↓binK.eq_def, ↓eqop.eq_def, icells, ↓iop.eq_def, ↓cutK.eq_def, ↓lenK.eq_def, ↓lenM.eq_def, tyInt, ↓lookK.eq_def, ↓mpK.eq_def, keyV, allI, fitK, lkM, upM, dlM, kq, ↓cvK.eq_def, ↓mmK.eq_def, ↓biK.eq_def, ↓stK.eq_def, ↓apK.eq_def, ↓apD.eq_def, ↓apS.eq_def, nxt, put, setT, setB, delB, lkT_n, lkT_c, lkB_n, lkB_c, ev, ofC, inT, ofA, ofRet, dV_n, dV_c, getD_enc, toDs_dV, List.head?_cons, List.length_map, Option.toArray_some, Option.toArray_none, Int.toNat_natCast, slOf, TyK.agg, vcells, splice, strip, stripP, gOf, allP, rowV, toDs, toD, toA, toAs, headOps, tailOps, isT, addN, Op.operands, Call.operands, List.map_cons, List.map_nil, List.drop_zero, List.drop_succ_cons, List.take_succ_cons, List.take_zero, List.length_cons, List.length_nil, List.getElem?_cons_zero, List.getElem?_cons_succ, List.getElem?_toArray, Option.bind_some, Option.map_some, Option.map_none, List.append_nil, List.nil_append, List.cons_append, if_true, if_false, reduceIte, Nat.reduceEqDiff, Nat.reduceAdd, Nat.reduceSub, Int.reduceToNat, Nat.reduceLeDiff, Nat.reduceLT, and_false, and_self, Nat.zero_add, Nat.add_zero, reduceCtorEq, Option.getD_some, Option.getD_none, Option.isSome_some, Option.isSome_none, forall_const, true_and, and_true, true_implies, Bool.true_and, Bool.false_and, Bool.and_true, Bool.and_false, Bool.true_or, Bool.false_or, Bool.or_true, Bool.or_false, beq_self_eq_true, zipM, zcells, Value.cells, Value.oneCell', List.toList_toArray, Array.toList_append, Bool.not_not, List.cons.injEq, Int.reduceEq, eq_self, false_and, Bool.not_true, Bool.not_false, ne_eq, not_false_eq_true, imp_self, implies_true, av_bt, av_bf, av_and, av_or, av_nf, av_tt, av_n1, av_n2, av_t1, av_tp, retQ, retL, resV, RetV, RetOk, SubL, ↓earlyK.eq_def, tailX, Nat.reduceBEq, entD_len, entD_take, entD_hd, entD_ln, entD_ic, entD_d1, entD_d2, entD_d3, entD_d4, entD_d5, entD_d6, entD_d7, intD_len, intD_take, intD_hd, intD_ln, intD_ic, snocI, ty_39, ty_3, ty_22, ty_56, ty_63, ty_86, ty_30, ty_4, lkM_bool, upM_bool, boolV, entV, deskD, ↓vD_nil, lk_desk', lk_row, hE]; try simp (disch := omega) only [av_w, av_t1, av_tp, Int.toNat_natCast]))
    refine aw_loopI (fun x : Nat × List Int × Int => ⟨[(0, .yl 3), (1, .ptr 2 0), (2, .ptr 1 0), (4, .mp 4), (50, .ptr 0 0)],
      [(4, .map .i 3 (.bool false) (boolV false) (mpV boolV (metM (x.2.1 ++ [x.2.2])))), (3, .loop L .ready none), (2, .cells 3 [vI x.2.2]), (1, .cells 56 [.d (deskD xs)]), (0, .cells 30 [.ow 5 1 (intD 0) (x.2.1.map intD)]), (5, .tok 3 1 x.2.1.length)], 6⟩)
      (fun x => ChainAt xs person x.1 x.2.1 x.2.2 ∧ 0 ≤ x.2.2 ∧ x.2.2 ≤ 1048576) (fun x => x.1) (xs.length, [], person) ⟨chainAt_zero xs person, hpb⟩ (wk_of [(0, some 0), (1, some 1), (2, some 2), (3, some 3), (4, some 4), (5, none)] rfl rfl ?_ ?_) ?_
    · simp only [wkT, wkB, wkB1, subV, subVs, subD, subB, lkN_n, lkN_c, lkT_n, lkT_c, lkB_n, lkB_c, if_true, if_false, reduceIte, Nat.reduceEqDiff, true_and, and_true, and_self, inT, ofA]
    · simp only [wkT, wkB, wkB1, subV, subVs, subD, subB, lkN_n, lkN_c, lkT_n, lkT_c, lkB_n, lkB_c, if_true, if_false, reduceIte, Nat.reduceEqDiff, true_and, and_true, and_self, inT, ofA]
      (repeat' (first | exact trivial | rfl | exact rfl | refine And.intro ?_ ?_))
    rintro ⟨n, acc, p⟩ ⟨hC, hpb'⟩
    dsimp only at hC hpb' ⊢
    have hlen : acc.length ≤ xs.length := hC.len
    cases hq : lastK 2 p xs with
    | none =>
      have hnx : nxK xs p = none := by rw [nxK, hq]; rfl
      cases hz : lkA [(default : Ent).b] (metM (acc ++ [p])) with
      | none =>
        repeat' (first
          | (with_reducible refine aw_seq ?_)
          | ((with_reducible refine twoG_intro ?_ ?_) <;> intro hTw <;> first | (exact Bool.noConfusion hTw) | ((try simp only [hTw, Bool.not_true, Bool.not_false, Bool.true_and, Bool.false_and, Bool.and_true, Bool.and_false, Bool.true_or, Bool.false_or, Bool.or_true, Bool.or_false]); (first | (guard_hyp hTw : true = true; clear hTw) | (guard_hyp hTw : false = false; clear hTw) | (revert hTw; intro _))))
          | ((with_reducible refine two_intro ?_ ?_) <;> intro hTw <;> first | (exact Bool.noConfusion hTw) | ((first | (guard_hyp hTw : true = true; clear hTw) | (guard_hyp hTw : false = false; clear hTw) | (revert hTw; intro _))))
          | ((with_reducible refine And.intro ?_ ?_); (focus (first | exact keyOk_int_ | omega | rfl | decide | grind)))
          | (with_reducible refine aw_block ?_)
          | (with_reducible refine aw_scope ?_)
          | ((first
              | ((with_reducible refine aw_regionA T_ok ?_ ?_); (focus kernel_rfl))
              | ((with_reducible refine aw_drawnA T_ok ?_ ?_ ?_ ?_); (focus kernel_rfl); (focus kernel_rfl); (focus kernel_rfl))
              | ((with_reducible refine callK_intro (clip_spec (acc ++ [p])) (by with_unfolding_all rfl) ?_ ?_); (focus kernel_rfl))
              | ((with_reducible refine callI_spec (clip_spec (acc ++ [p])) (by with_unfolding_all rfl) ?_ ?_ ?_); (focus kernel_rfl); (focus kernel_rfl))
              | ((with_reducible apply yieldI_in 0 0 (hL1 := hLp) (hL2 := hLa) (hL3 := hLb) (hsz := hLt.1)); (focus rfl); (focus rfl); (focus rfl); (focus kernel_rfl); (focus (dsimp only [Base.inn, Base.inr])); (focus exact (fun t ht => (hLt.2 t ht).trans (by rw [Nat.zero_add]; rfl))); (focus kernel_rfl); intro _)
              | (with_reducible refine aw_label ?_)
              | ((with_reducible refine aw_rfM ?_ ?_); (focus kernel_rfl))
              | (with_reducible refine aw_skip ?_)
              | (with_reducible refine aw_exit ?_)
              | ((with_reducible refine aw_condM ?_ ?_); (focus kernel_rfl))
              | (with_reducible refine aw_ret ?_)
            ); simp only [↓rwp.eq_def, ↓sop.eq_def, ↓slotK.eq_def, inV, shT, unT, inQ, rfQ, rfEnd, resOf, pickT, setP, ydA, ydQ, rowW, vD, fillV,  ↓gop.eq_def, ↓hop.eq_def, ↓hopH.eq_def, ↓hwp.eq_def, ↓ldV.eq_def, ↓ldK.eq_def, ↓ixK.eq_def, ↓addOff.eq_def, ↓exK.eq_def, ↓notK.eq_def, ↓pickK.eq_def, ↓iop2.eq_def, ↓binK.eq_def, ↓eqop.eq_def, icells, ↓iop.eq_def, ↓cutK.eq_def, ↓lenK.eq_def, ↓lenM.eq_def, tyInt, ↓lookK.eq_def, ↓mpK.eq_def, keyV, allI, fitK, lkM, upM, dlM, kq, ↓cvK.eq_def, ↓mmK.eq_def, ↓biK.eq_def, ↓stK.eq_def, ↓apK.eq_def, ↓apD.eq_def, ↓apS.eq_def, nxt, put, setT, setB, delB, lkT_n, lkT_c, lkB_n, lkB_c, ev, ofC, inT, ofA, ofRet, dV_n, dV_c, getD_enc, toDs_dV, List.head?_cons, List.length_map, Option.toArray_some, Option.toArray_none, Int.toNat_natCast, slOf, TyK.agg, vcells, splice, strip, stripP, gOf, allP, rowV, toDs, toD, toA, toAs, headOps, tailOps, isT, addN, Op.operands, Call.operands, List.map_cons, List.map_nil, List.drop_zero, List.drop_succ_cons, List.take_succ_cons, List.take_zero, List.length_cons, List.length_nil, List.getElem?_cons_zero, List.getElem?_cons_succ, List.getElem?_toArray, Option.bind_some, Option.map_some, Option.map_none, List.append_nil, List.nil_append, List.cons_append, if_true, if_false, reduceIte, Nat.reduceEqDiff, Nat.reduceAdd, Nat.reduceSub, Int.reduceToNat, Nat.reduceLeDiff, Nat.reduceLT, and_false, and_self, Nat.zero_add, Nat.add_zero, reduceCtorEq, Option.getD_some, Option.getD_none, Option.isSome_some, Option.isSome_none, forall_const, true_and, and_true, true_implies, Bool.true_and, Bool.false_and, Bool.and_true, Bool.and_false, Bool.true_or, Bool.false_or, Bool.or_true, Bool.or_false, beq_self_eq_true, zipM, zcells, Value.cells, Value.oneCell', List.toList_toArray, Array.toList_append, Bool.not_not, List.cons.injEq, Int.reduceEq, eq_self, false_and, Bool.not_true, Bool.not_false, ne_eq, not_false_eq_true, imp_self, implies_true, av_bt, av_bf, av_and, av_or, av_nf, av_tt, av_n1, av_n2, av_t1, av_tp, retQ, retL, resV, RetV, RetOk, SubL, ↓earlyK.eq_def, tailX, Nat.reduceBEq, entD_len, entD_take, entD_hd, entD_ln, entD_ic, entD_d1, entD_d2, entD_d3, entD_d4, entD_d5, entD_d6, entD_d7, intD_len, intD_take, intD_hd, intD_ln, intD_ic, snocI, ty_39, ty_3, ty_22, ty_56, ty_63, ty_86, ty_30, ty_4, lkM_bool, upM_bool, boolV, entV, deskD, ↓vD_nil, lk_desk', lk_row, hq, hz, hE]; try simp (disch := omega) only [av_w, av_t1, av_tp, Int.toNat_natCast]))
        rw [agentsL, if_pos hE, ← hxs, hC.stop hnx]
        exact ⟨Sub.refl _, Sub.of_eq (by first | rfl | rw [hE])⟩
      | some v0 =>
        repeat' (first
          | (with_reducible refine aw_seq ?_)
          | ((with_reducible refine twoG_intro ?_ ?_) <;> intro hTw <;> first | (exact Bool.noConfusion hTw) | ((try simp only [hTw, Bool.not_true, Bool.not_false, Bool.true_and, Bool.false_and, Bool.and_true, Bool.and_false, Bool.true_or, Bool.false_or, Bool.or_true, Bool.or_false]); (first | (guard_hyp hTw : true = true; clear hTw) | (guard_hyp hTw : false = false; clear hTw) | (revert hTw; intro _))))
          | ((with_reducible refine two_intro ?_ ?_) <;> intro hTw <;> first | (exact Bool.noConfusion hTw) | ((first | (guard_hyp hTw : true = true; clear hTw) | (guard_hyp hTw : false = false; clear hTw) | (revert hTw; intro _))))
          | ((with_reducible refine And.intro ?_ ?_); (focus (first | exact keyOk_int_ | omega | rfl | decide | grind)))
          | (with_reducible refine aw_block ?_)
          | (with_reducible refine aw_scope ?_)
          | ((first
              | ((with_reducible refine aw_regionA T_ok ?_ ?_); (focus kernel_rfl))
              | ((with_reducible refine aw_drawnA T_ok ?_ ?_ ?_ ?_); (focus kernel_rfl); (focus kernel_rfl); (focus kernel_rfl))
              | ((with_reducible refine callK_intro (clip_spec (acc ++ [p])) (by with_unfolding_all rfl) ?_ ?_); (focus kernel_rfl))
              | ((with_reducible refine callI_spec (clip_spec (acc ++ [p])) (by with_unfolding_all rfl) ?_ ?_ ?_); (focus kernel_rfl); (focus kernel_rfl))
              | ((with_reducible apply yieldI_in 0 0 (hL1 := hLp) (hL2 := hLa) (hL3 := hLb) (hsz := hLt.1)); (focus rfl); (focus rfl); (focus rfl); (focus kernel_rfl); (focus (dsimp only [Base.inn, Base.inr])); (focus exact (fun t ht => (hLt.2 t ht).trans (by rw [Nat.zero_add]; rfl))); (focus kernel_rfl); intro _)
              | (with_reducible refine aw_label ?_)
              | ((with_reducible refine aw_rfM ?_ ?_); (focus kernel_rfl))
              | (with_reducible refine aw_skip ?_)
              | (with_reducible refine aw_exit ?_)
              | ((with_reducible refine aw_condM ?_ ?_); (focus kernel_rfl))
              | (with_reducible refine aw_ret ?_)
            ); simp only [↓rwp.eq_def, ↓sop.eq_def, ↓slotK.eq_def, inV, shT, unT, inQ, rfQ, rfEnd, resOf, pickT, setP, ydA, ydQ, rowW, vD, fillV,  ↓gop.eq_def, ↓hop.eq_def, ↓hopH.eq_def, ↓hwp.eq_def, ↓ldV.eq_def, ↓ldK.eq_def, ↓ixK.eq_def, ↓addOff.eq_def, ↓exK.eq_def, ↓notK.eq_def, ↓pickK.eq_def, ↓iop2.eq_def, ↓binK.eq_def, ↓eqop.eq_def, icells, ↓iop.eq_def, ↓cutK.eq_def, ↓lenK.eq_def, ↓lenM.eq_def, tyInt, ↓lookK.eq_def, ↓mpK.eq_def, keyV, allI, fitK, lkM, upM, dlM, kq, ↓cvK.eq_def, ↓mmK.eq_def, ↓biK.eq_def, ↓stK.eq_def, ↓apK.eq_def, ↓apD.eq_def, ↓apS.eq_def, nxt, put, setT, setB, delB, lkT_n, lkT_c, lkB_n, lkB_c, ev, ofC, inT, ofA, ofRet, dV_n, dV_c, getD_enc, toDs_dV, List.head?_cons, List.length_map, Option.toArray_some, Option.toArray_none, Int.toNat_natCast, slOf, TyK.agg, vcells, splice, strip, stripP, gOf, allP, rowV, toDs, toD, toA, toAs, headOps, tailOps, isT, addN, Op.operands, Call.operands, List.map_cons, List.map_nil, List.drop_zero, List.drop_succ_cons, List.take_succ_cons, List.take_zero, List.length_cons, List.length_nil, List.getElem?_cons_zero, List.getElem?_cons_succ, List.getElem?_toArray, Option.bind_some, Option.map_some, Option.map_none, List.append_nil, List.nil_append, List.cons_append, if_true, if_false, reduceIte, Nat.reduceEqDiff, Nat.reduceAdd, Nat.reduceSub, Int.reduceToNat, Nat.reduceLeDiff, Nat.reduceLT, and_false, and_self, Nat.zero_add, Nat.add_zero, reduceCtorEq, Option.getD_some, Option.getD_none, Option.isSome_some, Option.isSome_none, forall_const, true_and, and_true, true_implies, Bool.true_and, Bool.false_and, Bool.and_true, Bool.and_false, Bool.true_or, Bool.false_or, Bool.or_true, Bool.or_false, beq_self_eq_true, zipM, zcells, Value.cells, Value.oneCell', List.toList_toArray, Array.toList_append, Bool.not_not, List.cons.injEq, Int.reduceEq, eq_self, false_and, Bool.not_true, Bool.not_false, ne_eq, not_false_eq_true, imp_self, implies_true, av_bt, av_bf, av_and, av_or, av_nf, av_tt, av_n1, av_n2, av_t1, av_tp, retQ, retL, resV, RetV, RetOk, SubL, ↓earlyK.eq_def, tailX, Nat.reduceBEq, entD_len, entD_take, entD_hd, entD_ln, entD_ic, entD_d1, entD_d2, entD_d3, entD_d4, entD_d5, entD_d6, entD_d7, intD_len, intD_take, intD_hd, intD_ln, intD_ic, snocI, ty_39, ty_3, ty_22, ty_56, ty_63, ty_86, ty_30, ty_4, lkM_bool, upM_bool, boolV, entV, deskD, ↓vD_nil, lk_desk', lk_row, hq, hz, hE]; try simp (disch := omega) only [av_w, av_t1, av_tp, Int.toNat_natCast]))
        rw [agentsL, if_pos hE, ← hxs, hC.stop hnx]
        exact ⟨Sub.refl _, Sub.of_eq (by first | rfl | rw [hE])⟩
    | some e =>
      have hnx : nxK xs p = some e.b := by rw [nxK, hq]; rfl
      have hbe := lastK_b hv hq
      by_cases hm : e.b ∈ acc ++ [p]
      · have hz : lkA [e.b] (metM (acc ++ [p])) = some true := by rw [lkA_metM, if_pos hm]
        repeat' (first
          | (with_reducible refine aw_seq ?_)
          | ((with_reducible refine twoG_intro ?_ ?_) <;> intro hTw <;> first | (exact Bool.noConfusion hTw) | ((try simp only [hTw, Bool.not_true, Bool.not_false, Bool.true_and, Bool.false_and, Bool.and_true, Bool.and_false, Bool.true_or, Bool.false_or, Bool.or_true, Bool.or_false]); (first | (guard_hyp hTw : true = true; clear hTw) | (guard_hyp hTw : false = false; clear hTw) | (revert hTw; intro _))))
          | ((with_reducible refine two_intro ?_ ?_) <;> intro hTw <;> first | (exact Bool.noConfusion hTw) | ((first | (guard_hyp hTw : true = true; clear hTw) | (guard_hyp hTw : false = false; clear hTw) | (revert hTw; intro _))))
          | ((with_reducible refine And.intro ?_ ?_); (focus (first | exact keyOk_int_ | omega | rfl | decide | grind)))
          | (with_reducible refine aw_block ?_)
          | (with_reducible refine aw_scope ?_)
          | ((first
              | ((with_reducible refine aw_regionA T_ok ?_ ?_); (focus kernel_rfl))
              | ((with_reducible refine aw_drawnA T_ok ?_ ?_ ?_ ?_); (focus kernel_rfl); (focus kernel_rfl); (focus kernel_rfl))
              | ((with_reducible refine callK_intro (clip_spec (acc ++ [p])) (by with_unfolding_all rfl) ?_ ?_); (focus kernel_rfl))
              | ((with_reducible refine callI_spec (clip_spec (acc ++ [p])) (by with_unfolding_all rfl) ?_ ?_ ?_); (focus kernel_rfl); (focus kernel_rfl))
              | ((with_reducible apply yieldI_in 0 0 (hL1 := hLp) (hL2 := hLa) (hL3 := hLb) (hsz := hLt.1)); (focus rfl); (focus rfl); (focus rfl); (focus kernel_rfl); (focus (dsimp only [Base.inn, Base.inr])); (focus exact (fun t ht => (hLt.2 t ht).trans (by rw [Nat.zero_add]; rfl))); (focus kernel_rfl); intro _)
              | (with_reducible refine aw_label ?_)
              | ((with_reducible refine aw_rfM ?_ ?_); (focus kernel_rfl))
              | (with_reducible refine aw_skip ?_)
              | (with_reducible refine aw_exit ?_)
              | ((with_reducible refine aw_condM ?_ ?_); (focus kernel_rfl))
              | (with_reducible refine aw_ret ?_)
            ); simp only [↓rwp.eq_def, ↓sop.eq_def, ↓slotK.eq_def, inV, shT, unT, inQ, rfQ, rfEnd, resOf, pickT, setP, ydA, ydQ, rowW, vD, fillV,  ↓gop.eq_def, ↓hop.eq_def, ↓hopH.eq_def, ↓hwp.eq_def, ↓ldV.eq_def, ↓ldK.eq_def, ↓ixK.eq_def, ↓addOff.eq_def, ↓exK.eq_def, ↓notK.eq_def, ↓pickK.eq_def, ↓iop2.eq_def, ↓binK.eq_def, ↓eqop.eq_def, icells, ↓iop.eq_def, ↓cutK.eq_def, ↓lenK.eq_def, ↓lenM.eq_def, tyInt, ↓lookK.eq_def, ↓mpK.eq_def, keyV, allI, fitK, lkM, upM, dlM, kq, ↓cvK.eq_def, ↓mmK.eq_def, ↓biK.eq_def, ↓stK.eq_def, ↓apK.eq_def, ↓apD.eq_def, ↓apS.eq_def, nxt, put, setT, setB, delB, lkT_n, lkT_c, lkB_n, lkB_c, ev, ofC, inT, ofA, ofRet, dV_n, dV_c, getD_enc, toDs_dV, List.head?_cons, List.length_map, Option.toArray_some, Option.toArray_none, Int.toNat_natCast, slOf, TyK.agg, vcells, splice, strip, stripP, gOf, allP, rowV, toDs, toD, toA, toAs, headOps, tailOps, isT, addN, Op.operands, Call.operands, List.map_cons, List.map_nil, List.drop_zero, List.drop_succ_cons, List.take_succ_cons, List.take_zero, List.length_cons, List.length_nil, List.getElem?_cons_zero, List.getElem?_cons_succ, List.getElem?_toArray, Option.bind_some, Option.map_some, Option.map_none, List.append_nil, List.nil_append, List.cons_append, if_true, if_false, reduceIte, Nat.reduceEqDiff, Nat.reduceAdd, Nat.reduceSub, Int.reduceToNat, Nat.reduceLeDiff, Nat.reduceLT, and_false, and_self, Nat.zero_add, Nat.add_zero, reduceCtorEq, Option.getD_some, Option.getD_none, Option.isSome_some, Option.isSome_none, forall_const, true_and, and_true, true_implies, Bool.true_and, Bool.false_and, Bool.and_true, Bool.and_false, Bool.true_or, Bool.false_or, Bool.or_true, Bool.or_false, beq_self_eq_true, zipM, zcells, Value.cells, Value.oneCell', List.toList_toArray, Array.toList_append, Bool.not_not, List.cons.injEq, Int.reduceEq, eq_self, false_and, Bool.not_true, Bool.not_false, ne_eq, not_false_eq_true, imp_self, implies_true, av_bt, av_bf, av_and, av_or, av_nf, av_tt, av_n1, av_n2, av_t1, av_tp, retQ, retL, resV, RetV, RetOk, SubL, ↓earlyK.eq_def, tailX, Nat.reduceBEq, entD_len, entD_take, entD_hd, entD_ln, entD_ic, entD_d1, entD_d2, entD_d3, entD_d4, entD_d5, entD_d6, entD_d7, intD_len, intD_take, intD_hd, intD_ln, intD_ic, snocI, ty_39, ty_3, ty_22, ty_56, ty_63, ty_86, ty_30, ty_4, lkM_bool, upM_bool, boolV, entV, deskD, ↓vD_nil, lk_desk', lk_row, hq, hz, hE]; try simp (disch := omega) only [av_w, av_t1, av_tp, Int.toNat_natCast]))
        rw [agentsL, if_pos hE, ← hxs, hC.circle hnx hm]
        exact ⟨Sub.refl _, Sub.of_eq (by first | rfl | rw [hE])⟩
      · have hz : lkA [e.b] (metM (acc ++ [p])) = none := by rw [lkA_metM, if_neg hm]
        repeat' (first
          | (with_reducible refine aw_seq ?_)
          | ((with_reducible refine twoG_intro ?_ ?_) <;> intro hTw <;> first | (exact Bool.noConfusion hTw) | ((try simp only [hTw, Bool.not_true, Bool.not_false, Bool.true_and, Bool.false_and, Bool.and_true, Bool.and_false, Bool.true_or, Bool.false_or, Bool.or_true, Bool.or_false]); (first | (guard_hyp hTw : true = true; clear hTw) | (guard_hyp hTw : false = false; clear hTw) | (revert hTw; intro _))))
          | ((with_reducible refine two_intro ?_ ?_) <;> intro hTw <;> first | (exact Bool.noConfusion hTw) | ((first | (guard_hyp hTw : true = true; clear hTw) | (guard_hyp hTw : false = false; clear hTw) | (revert hTw; intro _))))
          | ((with_reducible refine And.intro ?_ ?_); (focus (first | exact keyOk_int_ | omega | rfl | decide | grind)))
          | (with_reducible refine aw_block ?_)
          | (with_reducible refine aw_scope ?_)
          | ((first
              | ((with_reducible refine aw_regionA T_ok ?_ ?_); (focus kernel_rfl))
              | ((with_reducible refine aw_drawnS (id := 4) 5 2 T_ok ?_ ?_ ?_ ?_ ?_); (focus kernel_rfl); (focus kernel_rfl); (focus kernel_rfl); (focus kernel_rfl))
              | ((with_reducible refine aw_drawnA T_ok ?_ ?_ ?_ ?_); (focus kernel_rfl); (focus kernel_rfl); (focus kernel_rfl))
              | ((with_reducible refine callK_intro (clip_spec (acc ++ [p])) (by with_unfolding_all rfl) ?_ ?_); (focus kernel_rfl))
              | ((with_reducible refine callI_spec (clip_spec (acc ++ [p])) (by with_unfolding_all rfl) ?_ ?_ ?_); (focus kernel_rfl); (focus kernel_rfl))
              | ((with_reducible apply yieldI_in 0 0 (hL1 := hLp) (hL2 := hLa) (hL3 := hLb) (hsz := hLt.1)); (focus rfl); (focus rfl); (focus rfl); (focus kernel_rfl); (focus (dsimp only [Base.inn, Base.inr])); (focus exact (fun t ht => (hLt.2 t ht).trans (by rw [Nat.zero_add]; rfl))); (focus kernel_rfl); intro _)
              | (with_reducible refine fin2_intro ?_)
              | (with_reducible refine aw_label ?_)
              | ((with_reducible refine aw_rfM ?_ ?_); (focus kernel_rfl))
              | (with_reducible refine aw_skip ?_)
              | (with_reducible refine aw_exit ?_)
              | ((with_reducible refine aw_condM ?_ ?_); (focus kernel_rfl))
              | (with_reducible refine aw_ret ?_)
            ); simp only [↓rwp.eq_def, ↓sop.eq_def, ↓slotK.eq_def, inV, shT, unT, inQ, rfQ, rfEnd, resOf, pickT, setP, ydA, ydQ, rowW, vD, fillV,  ↓gop.eq_def, ↓hop.eq_def, ↓hopH.eq_def, ↓hwp.eq_def, ↓ldV.eq_def, ↓ldK.eq_def, ↓ixK.eq_def, ↓addOff.eq_def, ↓exK.eq_def, ↓notK.eq_def, ↓pickK.eq_def, ↓iop2.eq_def, ↓binK.eq_def, ↓eqop.eq_def, icells, ↓iop.eq_def, ↓cutK.eq_def, ↓lenK.eq_def, ↓lenM.eq_def, tyInt, ↓lookK.eq_def, ↓mpK.eq_def, keyV, allI, fitK, lkM, upM, dlM, kq, ↓cvK.eq_def, ↓mmK.eq_def, ↓biK.eq_def, ↓stK.eq_def, ↓apK.eq_def, ↓apD.eq_def, ↓apS.eq_def, nxt, put, setT, setB, delB, lkT_n, lkT_c, lkB_n, lkB_c, ev, ofC, inT, ofA, ofRet, dV_n, dV_c, getD_enc, toDs_dV, List.head?_cons, List.length_map, Option.toArray_some, Option.toArray_none, Int.toNat_natCast, slOf, TyK.agg, vcells, splice, strip, stripP, gOf, allP, rowV, toDs, toD, toA, toAs, headOps, tailOps, isT, addN, Op.operands, Call.operands, List.map_cons, List.map_nil, List.drop_zero, List.drop_succ_cons, List.take_succ_cons, List.take_zero, List.length_cons, List.length_nil, List.getElem?_cons_zero, List.getElem?_cons_succ, List.getElem?_toArray, Option.bind_some, Option.map_some, Option.map_none, List.append_nil, List.nil_append, List.cons_append, if_true, if_false, reduceIte, Nat.reduceEqDiff, Nat.reduceAdd, Nat.reduceSub, Int.reduceToNat, Nat.reduceLeDiff, Nat.reduceLT, and_false, and_self, Nat.zero_add, Nat.add_zero, reduceCtorEq, Option.getD_some, Option.getD_none, Option.isSome_some, Option.isSome_none, forall_const, true_and, and_true, true_implies, Bool.true_and, Bool.false_and, Bool.and_true, Bool.and_false, Bool.true_or, Bool.false_or, Bool.or_true, Bool.or_false, beq_self_eq_true, zipM, zcells, Value.cells, Value.oneCell', List.toList_toArray, Array.toList_append, Bool.not_not, List.cons.injEq, Int.reduceEq, eq_self, false_and, Bool.not_true, Bool.not_false, ne_eq, not_false_eq_true, imp_self, implies_true, av_bt, av_bf, av_and, av_or, av_nf, av_tt, av_n1, av_n2, av_t1, av_tp, retQ, retL, resV, RetV, RetOk, SubL, ↓earlyK.eq_def, tailX, Nat.reduceBEq, entD_len, entD_take, entD_hd, entD_ln, entD_ic, entD_d1, entD_d2, entD_d3, entD_d4, entD_d5, entD_d6, entD_d7, intD_len, intD_take, intD_hd, intD_ln, intD_ic, snocI, ty_39, ty_3, ty_22, ty_56, ty_63, ty_86, ty_30, ty_4, lkM_bool, upM_bool, boolV, entV, deskD, ↓vD_nil, lk_desk', lk_row, hq, hz, hE]; try simp (disch := omega) only [av_w, av_t1, av_tp, Int.toNat_natCast]))
        obtain ⟨m, hmn, hC'⟩ := hC.next hnx hm
        refine ⟨(m, acc ++ [p], e.b), ⟨hC', hbe⟩, hmn, wk_of [(0, some 0), (1, some 1), (2, some 2), (3, some 3), (4, some 4), (5, some 8)] rfl rfl ?_ ?_⟩
        · simp only [wkT, wkB, wkB1, subV, subVs, subD, subB, lkN_n, lkN_c, lkT_n, lkT_c, lkB_n, lkB_c, if_true, if_false, reduceIte, Nat.reduceEqDiff, true_and, and_true, and_self, inT, ofA]
        · simp only [wkT, wkB, wkB1, subV, subVs, subD, subB, lkN_n, lkN_c, lkT_n, lkT_c, lkB_n, lkB_c, if_true, if_false, reduceIte, Nat.reduceEqDiff, true_and, and_true, and_self, inT, ofA]
          first | exact subM_mpV (subV_bool _) (metM_succ _ _).symm | exact ⟨subM_mpV (subV_bool _) (metM_succ _ _).symm, by simp⟩
  · have hSp := hopen_spec2 l person day time hl hk [] (by rw [if_neg hE])
    repeat' (first
      | (with_reducible refine aw_seq ?_)
      | ((with_reducible refine twoG_intro ?_ ?_) <;> intro hTw <;> first | (exact Bool.noConfusion hTw) | ((try simp only [hTw, Bool.not_true, Bool.not_false, Bool.true_and, Bool.false_and, Bool.and_true, Bool.and_false, Bool.true_or, Bool.false_or, Bool.or_true, Bool.or_false]); (first | (guard_hyp hTw : true = true; clear hTw) | (guard_hyp hTw : false = false; clear hTw) | (revert hTw; intro _))))
      | ((with_reducible refine two_intro ?_ ?_) <;> intro hTw <;> first | (exact Bool.noConfusion hTw) | ((first | (guard_hyp hTw : true = true; clear hTw) | (guard_hyp hTw : false = false; clear hTw) | (revert hTw; intro _))))
      | ((with_reducible refine And.intro ?_ ?_); (focus (first | exact keyOk_int_ | omega | rfl | decide | grind)))
      | (with_reducible refine aw_block ?_)
      | (with_reducible refine aw_scope ?_)
      | ((first
          | ((with_reducible refine aw_regionA T_ok ?_ ?_); (focus kernel_rfl))
          | ((with_reducible refine aw_drawnA T_ok ?_ ?_ ?_ ?_); (focus kernel_rfl); (focus kernel_rfl); (focus kernel_rfl))
          | ((with_reducible refine callK_intro (hSp) (by with_unfolding_all rfl) ?_ ?_); (focus kernel_rfl))
          | ((with_reducible refine callI_spec (hSp) (by with_unfolding_all rfl) ?_ ?_ ?_); (focus kernel_rfl); (focus kernel_rfl))
          | (with_reducible refine aw_label ?_)
          | ((with_reducible refine aw_rfM ?_ ?_); (focus kernel_rfl))
          | (with_reducible refine aw_skip ?_)
          | (with_reducible refine aw_exit ?_)
          | ((with_reducible refine aw_condM ?_ ?_); (focus kernel_rfl))
          | (with_reducible refine aw_ret ?_)
        ); simp only [↓rwp.eq_def, ↓sop.eq_def, ↓slotK.eq_def, inV, shT, unT, inQ, rfQ, rfEnd, resOf, pickT, setP, ydA, ydQ, rowW, vD, fillV,  ↓gop.eq_def, ↓hop.eq_def, ↓hopH.eq_def, ↓hwp.eq_def, ↓ldV.eq_def, ↓ldK.eq_def, ↓ixK.eq_def, ↓addOff.eq_def, ↓exK.eq_def, ↓notK.eq_def, ↓pickK.eq_def, ↓iop2.eq_def, ↓binK.eq_def, ↓eqop.eq_def, icells, ↓iop.eq_def, ↓cutK.eq_def, ↓lenK.eq_def, ↓lenM.eq_def, tyInt, ↓lookK.eq_def, ↓mpK.eq_def, keyV, allI, fitK, lkM, upM, dlM, kq, ↓cvK.eq_def, ↓mmK.eq_def, ↓biK.eq_def, ↓stK.eq_def, ↓apK.eq_def, ↓apD.eq_def, ↓apS.eq_def, nxt, put, setT, setB, delB, lkT_n, lkT_c, lkB_n, lkB_c, ev, ofC, inT, ofA, ofRet, dV_n, dV_c, getD_enc, toDs_dV, List.head?_cons, List.length_map, Option.toArray_some, Option.toArray_none, Int.toNat_natCast, slOf, TyK.agg, vcells, splice, strip, stripP, gOf, allP, rowV, toDs, toD, toA, toAs, headOps, tailOps, isT, addN, Op.operands, Call.operands, List.map_cons, List.map_nil, List.drop_zero, List.drop_succ_cons, List.take_succ_cons, List.take_zero, List.length_cons, List.length_nil, List.getElem?_cons_zero, List.getElem?_cons_succ, List.getElem?_toArray, Option.bind_some, Option.map_some, Option.map_none, List.append_nil, List.nil_append, List.cons_append, if_true, if_false, reduceIte, Nat.reduceEqDiff, Nat.reduceAdd, Nat.reduceSub, Int.reduceToNat, Nat.reduceLeDiff, Nat.reduceLT, and_false, and_self, Nat.zero_add, Nat.add_zero, reduceCtorEq, Option.getD_some, Option.getD_none, Option.isSome_some, Option.isSome_none, forall_const, true_and, and_true, true_implies, Bool.true_and, Bool.false_and, Bool.and_true, Bool.and_false, Bool.true_or, Bool.false_or, Bool.or_true, Bool.or_false, beq_self_eq_true, zipM, zcells, Value.cells, Value.oneCell', List.toList_toArray, Array.toList_append, Bool.not_not, List.cons.injEq, Int.reduceEq, eq_self, false_and, Bool.not_true, Bool.not_false, ne_eq, not_false_eq_true, imp_self, implies_true, av_bt, av_bf, av_and, av_or, av_nf, av_tt, av_n1, av_n2, av_t1, av_tp, retQ, retL, resV, RetV, RetOk, SubL, ↓earlyK.eq_def, tailX, Nat.reduceBEq, entD_len, entD_take, entD_hd, entD_ln, entD_ic, entD_d1, entD_d2, entD_d3, entD_d4, entD_d5, entD_d6, entD_d7, intD_len, intD_take, intD_hd, intD_ln, intD_ic, snocI, ty_39, ty_3, ty_22, ty_56, ty_63, ty_86, ty_30, ty_4, lkM_bool, upM_bool, boolV, entV, deskD, ↓vD_nil, lk_desk', lk_row]; try simp (disch := omega) only [av_w, av_t1, av_tp, Int.toNat_natCast]))
    all_goals rw [agentsL, if_neg hE]
    · exact ⟨Sub.nil _ _, Sub.refl _⟩
    · exfalso; rename_i h; simp at h; exact hE h
end Go.Proofs.Ytfmefdeldgmhpaa
