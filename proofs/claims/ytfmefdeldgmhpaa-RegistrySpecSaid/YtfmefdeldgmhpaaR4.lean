import Derived.Test.YtfmefdeldgmhpaaR3
import Derived.Scope
import Derived.Test.YtfmefdeldgmhpaaRows
import Derived.WalkKit
import Derived.ProofKit
import Derived.OpenShut
import Derived.Carry
import Derived.ChangeSlices
import Derived.Test.YtfmefdeldgmhpaaR1
import Derived.Shelf.Spec.SlicesInsertGrow
import Derived.Test.YtfmefdeldgmhpaaR2
namespace Go.Proofs.Ytfmefdeldgmhpaa
set_option linter.unusedSimpArgs false
set_option linter.unusedVariables false
open Go.RowKit
set_option maxRecDepth 100000
set_option maxHeartbeats 4000000
def err1 (x : Ent) : Int := if validE x = true then 0 else 330
def i64 (n : Int) : Prop := -9223372036854775808 ≤ n ∧ n ≤ 9223372036854775807
theorem gcheck1_spec (x : Ent) (hx : i64 x.kind) : Spec Try.prog 52 [.agg (entD x)] (.r1 (aI (err1 x))) := by
  refine spec_of T_ok Try.func52 (by dsimp only [Try.f52]) rfl rfl (by simp) fun w F => ?_
  by_cases h1 : x.kind = 1
  · cases x
    simp only at h1
    subst h1
    repeat' (first
      | (with_reducible refine aw_seq ?_)
      | ((with_reducible refine twoG_intro ?_ ?_) <;> intro hTw <;> first | (exact Bool.noConfusion hTw) | ((try simp only [hTw, Bool.not_true, Bool.not_false, Bool.true_and, Bool.false_and, Bool.and_true, Bool.and_false, Bool.true_or, Bool.false_or, Bool.or_true, Bool.or_false]); (first | (guard_hyp hTw : true = true; clear hTw) | (guard_hyp hTw : false = false; clear hTw) | (revert hTw; intro _))))
      | ((with_reducible refine two_intro ?_ ?_) <;> intro hTw <;> first | (exact Bool.noConfusion hTw) | ((first | (guard_hyp hTw : true = true; clear hTw) | (guard_hyp hTw : false = false; clear hTw) | (revert hTw; intro _))))
      | ((with_reducible refine And.intro ?_ ?_); (focus (first | exact keyOk_int_ | omega | rfl | decide | grind)))
      | (with_reducible refine aw_block ?_)
      | (with_reducible refine aw_scope ?_)
      | ((first
          | ((with_reducible refine aw_regionA T_ok ?_ ?_); (focus kernel_rfl))
          | ((with_reducible refine aw_drawnA T_ok ?_ ?_ ?_ ?_); (focus kernel_rfl); (focus kernel_rfl); (focus kernel_rfl))
          | ((with_reducible refine callK_intro (gkinds_spec) (by with_unfolding_all rfl) ?_ ?_); (focus kernel_rfl))
          | ((with_reducible refine callI_spec (gkinds_spec) (by with_unfolding_all rfl) ?_ ?_ ?_); (focus kernel_rfl); (focus kernel_rfl))
          | ((with_reducible refine callK_intro (gid_spec _) (by with_unfolding_all rfl) ?_ ?_); (focus kernel_rfl))
          | ((with_reducible refine callI_spec (gid_spec _) (by with_unfolding_all rfl) ?_ ?_ ?_); (focus kernel_rfl); (focus kernel_rfl))
          | ((with_reducible refine callK_intro (gspan_spec _ _) (by with_unfolding_all rfl) ?_ ?_); (focus kernel_rfl))
          | ((with_reducible refine callI_spec (gspan_spec _ _) (by with_unfolding_all rfl) ?_ ?_ ?_); (focus kernel_rfl); (focus kernel_rfl))
          | ((with_reducible refine callK_intro (gk1_spec _ _) (by with_unfolding_all rfl) ?_ ?_); (focus kernel_rfl))
          | ((with_reducible refine callI_spec (gk1_spec _ _) (by with_unfolding_all rfl) ?_ ?_ ?_); (focus kernel_rfl); (focus kernel_rfl))
          | ((with_reducible refine callK_intro (gk2_spec _ _) (by with_unfolding_all rfl) ?_ ?_); (focus kernel_rfl))
          | ((with_reducible refine callI_spec (gk2_spec _ _) (by with_unfolding_all rfl) ?_ ?_ ?_); (focus kernel_rfl); (focus kernel_rfl))
          | ((with_reducible refine callK_intro (gk3_spec _ _) (by with_unfolding_all rfl) ?_ ?_); (focus kernel_rfl))
          | ((with_reducible refine callI_spec (gk3_spec _ _) (by with_unfolding_all rfl) ?_ ?_ ?_); (focus kernel_rfl); (focus kernel_rfl))
          | (with_reducible refine aw_label ?_)
          | ((with_reducible refine aw_rfM ?_ ?_); (focus kernel_rfl))
          | (with_reducible refine aw_skip ?_)
          | (with_reducible refine aw_exit ?_)
          | ((with_reducible refine aw_condM ?_ ?_); (focus kernel_rfl))
          | (with_reducible refine aw_ret ?_)
        ); simp only [↓rwp.eq_def, ↓sop.eq_def, ↓slotK.eq_def, inV, shT, unT, inQ, rfQ, rfEnd, resOf, pickT, setP, ydA, ydQ, rowW, vD, fillV,  ↓gop.eq_def, ↓hop.eq_def, ↓hopH.eq_def, ↓hwp.eq_def, ↓ldV.eq_def, ↓ldK.eq_def, ↓ixK.eq_def, ↓addOff.eq_def, ↓exK.eq_def, ↓notK.eq_def, ↓pickK.eq_def, ↓iop2.eq_def, ↓binK.eq_def, ↓eqop.eq_def, icells, ↓iop.eq_def, ↓cutK.eq_def, ↓lenK.eq_def, ↓lenM.eq_def, tyInt, ↓lookK.eq_def, ↓mpK.eq_def, keyV, allI, fitK, lkM, upM, dlM, kq, ↓cvK.eq_def, ↓mmK.eq_def, ↓biK.eq_def, ↓stK.eq_def, ↓apK.eq_def, ↓apD.eq_def, ↓apS.eq_def, nxt, put, setT, setB, delB, lkT_n, lkT_c, lkB_n, lkB_c, ev, ofC, inT, ofA, ofRet, dV_n, dV_c, getD_enc, toDs_dV, List.head?_cons, List.length_map, Option.toArray_some, Option.toArray_none, Int.toNat_natCast, slOf, TyK.agg, vcells, splice, pickOps, zOf, strip, stripP, gOf, allP, rowV, toDs, toD, toA, toAs, headOps, tailOps, isT, addN, Op.operands, Call.operands, List.map_cons, List.map_nil, List.drop_zero, List.drop_succ_cons, List.take_succ_cons, List.take_zero, List.length_cons, List.length_nil, List.getElem?_cons_zero, List.getElem?_cons_succ, List.getElem?_toArray, Option.bind_some, Option.map_some, Option.map_none, List.append_nil, List.nil_append, List.cons_append, if_true, if_false, reduceIte, Nat.reduceEqDiff, Nat.reduceAdd, Nat.reduceSub, Int.reduceToNat, Nat.reduceLeDiff, Nat.reduceLT, and_false, and_self, Nat.zero_add, Nat.add_zero, reduceCtorEq, Option.getD_some, Option.getD_none, Option.isSome_some, Option.isSome_none, forall_const, true_and, and_true, true_implies, Bool.true_and, Bool.false_and, Bool.and_true, Bool.and_false, Bool.true_or, Bool.false_or, Bool.or_true, Bool.or_false, beq_self_eq_true, zipM, zcells, Value.cells, Value.oneCell', List.toList_toArray, Array.toList_append, Bool.not_not, List.cons.injEq, Int.reduceEq, eq_self, false_and, Bool.not_true, Bool.not_false, ne_eq, not_false_eq_true, imp_self, implies_true, av_bt, av_bf, av_and, av_or, av_nf, av_tt, av_n1, av_n2, av_t1, av_tp, retQ, retL, resV, RetV, RetOk, SubL, entD_len, entD_take, entD_hd, entD_ln, entD_ic, entD_d1, entD_d2, entD_d3, entD_d4, entD_d5, entD_d6, entD_d7, ty_39, ty_3, ty_22, ty_89, ty_87, ty_4, kindsD, fnD]; try simp (disch := omega) only [av_w, av_t1, av_tp, Int.toNat_natCast]))
    all_goals (refine Sub.of_eq (congrArg aI ?_); simp only [err1, validE, fitsB, Int.reduceEq, reduceIte, or_true, true_or, or_false, false_or]; grind)
  by_cases h2 : x.kind = 2
  · cases x
    simp only at h2
    subst h2
    repeat' (first
      | (with_reducible refine aw_seq ?_)
      | ((with_reducible refine twoG_intro ?_ ?_) <;> intro hTw <;> first | (exact Bool.noConfusion hTw) | ((try simp only [hTw, Bool.not_true, Bool.not_false, Bool.true_and, Bool.false_and, Bool.and_true, Bool.and_false, Bool.true_or, Bool.false_or, Bool.or_true, Bool.or_false]); (first | (guard_hyp hTw : true = true; clear hTw) | (guard_hyp hTw : false = false; clear hTw) | (revert hTw; intro _))))
      | ((with_reducible refine two_intro ?_ ?_) <;> intro hTw <;> first | (exact Bool.noConfusion hTw) | ((first | (guard_hyp hTw : true = true; clear hTw) | (guard_hyp hTw : false = false; clear hTw) | (revert hTw; intro _))))
      | ((with_reducible refine And.intro ?_ ?_); (focus (first | exact keyOk_int_ | omega | rfl | decide | grind)))
      | (with_reducible refine aw_block ?_)
      | (with_reducible refine aw_scope ?_)
      | ((first
          | ((with_reducible refine aw_regionA T_ok ?_ ?_); (focus kernel_rfl))
          | ((with_reducible refine aw_drawnA T_ok ?_ ?_ ?_ ?_); (focus kernel_rfl); (focus kernel_rfl); (focus kernel_rfl))
          | ((with_reducible refine callK_intro (gkinds_spec) (by with_unfolding_all rfl) ?_ ?_); (focus kernel_rfl))
          | ((with_reducible refine callI_spec (gkinds_spec) (by with_unfolding_all rfl) ?_ ?_ ?_); (focus kernel_rfl); (focus kernel_rfl))
          | ((with_reducible refine callK_intro (gid_spec _) (by with_unfolding_all rfl) ?_ ?_); (focus kernel_rfl))
          | ((with_reducible refine callI_spec (gid_spec _) (by with_unfolding_all rfl) ?_ ?_ ?_); (focus kernel_rfl); (focus kernel_rfl))
          | ((with_reducible refine callK_intro (gspan_spec _ _) (by with_unfolding_all rfl) ?_ ?_); (focus kernel_rfl))
          | ((with_reducible refine callI_spec (gspan_spec _ _) (by with_unfolding_all rfl) ?_ ?_ ?_); (focus kernel_rfl); (focus kernel_rfl))
          | ((with_reducible refine callK_intro (gk1_spec _ _) (by with_unfolding_all rfl) ?_ ?_); (focus kernel_rfl))
          | ((with_reducible refine callI_spec (gk1_spec _ _) (by with_unfolding_all rfl) ?_ ?_ ?_); (focus kernel_rfl); (focus kernel_rfl))
          | ((with_reducible refine callK_intro (gk2_spec _ _) (by with_unfolding_all rfl) ?_ ?_); (focus kernel_rfl))
          | ((with_reducible refine callI_spec (gk2_spec _ _) (by with_unfolding_all rfl) ?_ ?_ ?_); (focus kernel_rfl); (focus kernel_rfl))
          | ((with_reducible refine callK_intro (gk3_spec _ _) (by with_unfolding_all rfl) ?_ ?_); (focus kernel_rfl))
          | ((with_reducible refine callI_spec (gk3_spec _ _) (by with_unfolding_all rfl) ?_ ?_ ?_); (focus kernel_rfl); (focus kernel_rfl))
          | (with_reducible refine aw_label ?_)
          | ((with_reducible refine aw_rfM ?_ ?_); (focus kernel_rfl))
          | (with_reducible refine aw_skip ?_)
          | (with_reducible refine aw_exit ?_)
          | ((with_reducible refine aw_condM ?_ ?_); (focus kernel_rfl))
          | (with_reducible refine aw_ret ?_)
        ); simp only [↓rwp.eq_def, ↓sop.eq_def, ↓slotK.eq_def, inV, shT, unT, inQ, rfQ, rfEnd, resOf, pickT, setP, ydA, ydQ, rowW, vD, fillV,  ↓gop.eq_def, ↓hop.eq_def, ↓hopH.eq_def, ↓hwp.eq_def, ↓ldV.eq_def, ↓ldK.eq_def, ↓ixK.eq_def, ↓addOff.eq_def, ↓exK.eq_def, ↓notK.eq_def, ↓pickK.eq_def, ↓iop2.eq_def, ↓binK.eq_def, ↓eqop.eq_def, icells, ↓iop.eq_def, ↓cutK.eq_def, ↓lenK.eq_def, ↓lenM.eq_def, tyInt, ↓lookK.eq_def, ↓mpK.eq_def, keyV, allI, fitK, lkM, upM, dlM, kq, ↓cvK.eq_def, ↓mmK.eq_def, ↓biK.eq_def, ↓stK.eq_def, ↓apK.eq_def, ↓apD.eq_def, ↓apS.eq_def, nxt, put, setT, setB, delB, lkT_n, lkT_c, lkB_n, lkB_c, ev, ofC, inT, ofA, ofRet, dV_n, dV_c, getD_enc, toDs_dV, List.head?_cons, List.length_map, Option.toArray_some, Option.toArray_none, Int.toNat_natCast, slOf, TyK.agg, vcells, splice, pickOps, zOf, strip, stripP, gOf, allP, rowV, toDs, toD, toA, toAs, headOps, tailOps, isT, addN, Op.operands, Call.operands, List.map_cons, List.map_nil, List.drop_zero, List.drop_succ_cons, List.take_succ_cons, List.take_zero, List.length_cons, List.length_nil, List.getElem?_cons_zero, List.getElem?_cons_succ, List.getElem?_toArray, Option.bind_some, Option.map_some, Option.map_none, List.append_nil, List.nil_append, List.cons_append, if_true, if_false, reduceIte, Nat.reduceEqDiff, Nat.reduceAdd, Nat.reduceSub, Int.reduceToNat, Nat.reduceLeDiff, Nat.reduceLT, and_false, and_self, Nat.zero_add, Nat.add_zero, reduceCtorEq, Option.getD_some, Option.getD_none, Option.isSome_some, Option.isSome_none, forall_const, true_and, and_true, true_implies, Bool.true_and, Bool.false_and, Bool.and_true, Bool.and_false, Bool.true_or, Bool.false_or, Bool.or_true, Bool.or_false, beq_self_eq_true, zipM, zcells, Value.cells, Value.oneCell', List.toList_toArray, Array.toList_append, Bool.not_not, List.cons.injEq, Int.reduceEq, eq_self, false_and, Bool.not_true, Bool.not_false, ne_eq, not_false_eq_true, imp_self, implies_true, av_bt, av_bf, av_and, av_or, av_nf, av_tt, av_n1, av_n2, av_t1, av_tp, retQ, retL, resV, RetV, RetOk, SubL, entD_len, entD_take, entD_hd, entD_ln, entD_ic, entD_d1, entD_d2, entD_d3, entD_d4, entD_d5, entD_d6, entD_d7, ty_39, ty_3, ty_22, ty_89, ty_87, ty_4, kindsD, fnD]; try simp (disch := omega) only [av_w, av_t1, av_tp, Int.toNat_natCast]))
    all_goals (refine Sub.of_eq (congrArg aI ?_); simp only [err1, validE, fitsB, Int.reduceEq, reduceIte, or_true, true_or, or_false, false_or]; grind)
  by_cases h3 : x.kind = 3
  · cases x
    simp only at h3
    subst h3
    repeat' (first
      | (with_reducible refine aw_seq ?_)
      | ((with_reducible refine twoG_intro ?_ ?_) <;> intro hTw <;> first | (exact Bool.noConfusion hTw) | ((try simp only [hTw, Bool.not_true, Bool.not_false, Bool.true_and, Bool.false_and, Bool.and_true, Bool.and_false, Bool.true_or, Bool.false_or, Bool.or_true, Bool.or_false]); (first | (guard_hyp hTw : true = true; clear hTw) | (guard_hyp hTw : false = false; clear hTw) | (revert hTw; intro _))))
      | ((with_reducible refine two_intro ?_ ?_) <;> intro hTw <;> first | (exact Bool.noConfusion hTw) | ((first | (guard_hyp hTw : true = true; clear hTw) | (guard_hyp hTw : false = false; clear hTw) | (revert hTw; intro _))))
      | ((with_reducible refine And.intro ?_ ?_); (focus (first | exact keyOk_int_ | omega | rfl | decide | grind)))
      | (with_reducible refine aw_block ?_)
      | (with_reducible refine aw_scope ?_)
      | ((first
          | ((with_reducible refine aw_regionA T_ok ?_ ?_); (focus kernel_rfl))
          | ((with_reducible refine aw_drawnA T_ok ?_ ?_ ?_ ?_); (focus kernel_rfl); (focus kernel_rfl); (focus kernel_rfl))
          | ((with_reducible refine callK_intro (gkinds_spec) (by with_unfolding_all rfl) ?_ ?_); (focus kernel_rfl))
          | ((with_reducible refine callI_spec (gkinds_spec) (by with_unfolding_all rfl) ?_ ?_ ?_); (focus kernel_rfl); (focus kernel_rfl))
          | ((with_reducible refine callK_intro (gid_spec _) (by with_unfolding_all rfl) ?_ ?_); (focus kernel_rfl))
          | ((with_reducible refine callI_spec (gid_spec _) (by with_unfolding_all rfl) ?_ ?_ ?_); (focus kernel_rfl); (focus kernel_rfl))
          | ((with_reducible refine callK_intro (gspan_spec _ _) (by with_unfolding_all rfl) ?_ ?_); (focus kernel_rfl))
          | ((with_reducible refine callI_spec (gspan_spec _ _) (by with_unfolding_all rfl) ?_ ?_ ?_); (focus kernel_rfl); (focus kernel_rfl))
          | ((with_reducible refine callK_intro (gk1_spec _ _) (by with_unfolding_all rfl) ?_ ?_); (focus kernel_rfl))
          | ((with_reducible refine callI_spec (gk1_spec _ _) (by with_unfolding_all rfl) ?_ ?_ ?_); (focus kernel_rfl); (focus kernel_rfl))
          | ((with_reducible refine callK_intro (gk2_spec _ _) (by with_unfolding_all rfl) ?_ ?_); (focus kernel_rfl))
          | ((with_reducible refine callI_spec (gk2_spec _ _) (by with_unfolding_all rfl) ?_ ?_ ?_); (focus kernel_rfl); (focus kernel_rfl))
          | ((with_reducible refine callK_intro (gk3_spec _ _) (by with_unfolding_all rfl) ?_ ?_); (focus kernel_rfl))
          | ((with_reducible refine callI_spec (gk3_spec _ _) (by with_unfolding_all rfl) ?_ ?_ ?_); (focus kernel_rfl); (focus kernel_rfl))
          | (with_reducible refine aw_label ?_)
          | ((with_reducible refine aw_rfM ?_ ?_); (focus kernel_rfl))
          | (with_reducible refine aw_skip ?_)
          | (with_reducible refine aw_exit ?_)
          | ((with_reducible refine aw_condM ?_ ?_); (focus kernel_rfl))
          | (with_reducible refine aw_ret ?_)
        ); simp only [↓rwp.eq_def, ↓sop.eq_def, ↓slotK.eq_def, inV, shT, unT, inQ, rfQ, rfEnd, resOf, pickT, setP, ydA, ydQ, rowW, vD, fillV,  ↓gop.eq_def, ↓hop.eq_def, ↓hopH.eq_def, ↓hwp.eq_def, ↓ldV.eq_def, ↓ldK.eq_def, ↓ixK.eq_def, ↓addOff.eq_def, ↓exK.eq_def, ↓notK.eq_def, ↓pickK.eq_def, ↓iop2.eq_def, ↓binK.eq_def, ↓eqop.eq_def, icells, ↓iop.eq_def, ↓cutK.eq_def, ↓lenK.eq_def, ↓lenM.eq_def, tyInt, ↓lookK.eq_def, ↓mpK.eq_def, keyV, allI, fitK, lkM, upM, dlM, kq, ↓cvK.eq_def, ↓mmK.eq_def, ↓biK.eq_def, ↓stK.eq_def, ↓apK.eq_def, ↓apD.eq_def, ↓apS.eq_def, nxt, put, setT, setB, delB, lkT_n, lkT_c, lkB_n, lkB_c, ev, ofC, inT, ofA, ofRet, dV_n, dV_c, getD_enc, toDs_dV, List.head?_cons, List.length_map, Option.toArray_some, Option.toArray_none, Int.toNat_natCast, slOf, TyK.agg, vcells, splice, pickOps, zOf, strip, stripP, gOf, allP, rowV, toDs, toD, toA, toAs, headOps, tailOps, isT, addN, Op.operands, Call.operands, List.map_cons, List.map_nil, List.drop_zero, List.drop_succ_cons, List.take_succ_cons, List.take_zero, List.length_cons, List.length_nil, List.getElem?_cons_zero, List.getElem?_cons_succ, List.getElem?_toArray, Option.bind_some, Option.map_some, Option.map_none, List.append_nil, List.nil_append, List.cons_append, if_true, if_false, reduceIte, Nat.reduceEqDiff, Nat.reduceAdd, Nat.reduceSub, Int.reduceToNat, Nat.reduceLeDiff, Nat.reduceLT, and_false, and_self, Nat.zero_add, Nat.add_zero, reduceCtorEq, Option.getD_some, Option.getD_none, Option.isSome_some, Option.isSome_none, forall_const, true_and, and_true, true_implies, Bool.true_and, Bool.false_and, Bool.and_true, Bool.and_false, Bool.true_or, Bool.false_or, Bool.or_true, Bool.or_false, beq_self_eq_true, zipM, zcells, Value.cells, Value.oneCell', List.toList_toArray, Array.toList_append, Bool.not_not, List.cons.injEq, Int.reduceEq, eq_self, false_and, Bool.not_true, Bool.not_false, ne_eq, not_false_eq_true, imp_self, implies_true, av_bt, av_bf, av_and, av_or, av_nf, av_tt, av_n1, av_n2, av_t1, av_tp, retQ, retL, resV, RetV, RetOk, SubL, entD_len, entD_take, entD_hd, entD_ln, entD_ic, entD_d1, entD_d2, entD_d3, entD_d4, entD_d5, entD_d6, entD_d7, ty_39, ty_3, ty_22, ty_89, ty_87, ty_4, kindsD, fnD]; try simp (disch := omega) only [av_w, av_t1, av_tp, Int.toNat_natCast]))
    all_goals (refine Sub.of_eq (congrArg aI ?_); simp only [err1, validE, fitsB, Int.reduceEq, reduceIte, or_true, true_or, or_false, false_or]; grind)
  by_cases h4 : x.kind = 4
  · cases x
    simp only at h4
    subst h4
    repeat' (first
      | (with_reducible refine aw_seq ?_)
      | ((with_reducible refine twoG_intro ?_ ?_) <;> intro hTw <;> first | (exact Bool.noConfusion hTw) | ((try simp only [hTw, Bool.not_true, Bool.not_false, Bool.true_and, Bool.false_and, Bool.and_true, Bool.and_false, Bool.true_or, Bool.false_or, Bool.or_true, Bool.or_false]); (first | (guard_hyp hTw : true = true; clear hTw) | (guard_hyp hTw : false = false; clear hTw) | (revert hTw; intro _))))
      | ((with_reducible refine two_intro ?_ ?_) <;> intro hTw <;> first | (exact Bool.noConfusion hTw) | ((first | (guard_hyp hTw : true = true; clear hTw) | (guard_hyp hTw : false = false; clear hTw) | (revert hTw; intro _))))
      | ((with_reducible refine And.intro ?_ ?_); (focus (first | exact keyOk_int_ | omega | rfl | decide | grind)))
      | (with_reducible refine aw_block ?_)
      | (with_reducible refine aw_scope ?_)
      | ((first
          | ((with_reducible refine aw_regionA T_ok ?_ ?_); (focus kernel_rfl))
          | ((with_reducible refine aw_drawnA T_ok ?_ ?_ ?_ ?_); (focus kernel_rfl); (focus kernel_rfl); (focus kernel_rfl))
          | ((with_reducible refine callK_intro (gkinds_spec) (by with_unfolding_all rfl) ?_ ?_); (focus kernel_rfl))
          | ((with_reducible refine callI_spec (gkinds_spec) (by with_unfolding_all rfl) ?_ ?_ ?_); (focus kernel_rfl); (focus kernel_rfl))
          | ((with_reducible refine callK_intro (gid_spec _) (by with_unfolding_all rfl) ?_ ?_); (focus kernel_rfl))
          | ((with_reducible refine callI_spec (gid_spec _) (by with_unfolding_all rfl) ?_ ?_ ?_); (focus kernel_rfl); (focus kernel_rfl))
          | ((with_reducible refine callK_intro (gspan_spec _ _) (by with_unfolding_all rfl) ?_ ?_); (focus kernel_rfl))
          | ((with_reducible refine callI_spec (gspan_spec _ _) (by with_unfolding_all rfl) ?_ ?_ ?_); (focus kernel_rfl); (focus kernel_rfl))
          | ((with_reducible refine callK_intro (gk1_spec _ _) (by with_unfolding_all rfl) ?_ ?_); (focus kernel_rfl))
          | ((with_reducible refine callI_spec (gk1_spec _ _) (by with_unfolding_all rfl) ?_ ?_ ?_); (focus kernel_rfl); (focus kernel_rfl))
          | ((with_reducible refine callK_intro (gk2_spec _ _) (by with_unfolding_all rfl) ?_ ?_); (focus kernel_rfl))
          | ((with_reducible refine callI_spec (gk2_spec _ _) (by with_unfolding_all rfl) ?_ ?_ ?_); (focus kernel_rfl); (focus kernel_rfl))
          | ((with_reducible refine callK_intro (gk3_spec _ _) (by with_unfolding_all rfl) ?_ ?_); (focus kernel_rfl))
          | ((with_reducible refine callI_spec (gk3_spec _ _) (by with_unfolding_all rfl) ?_ ?_ ?_); (focus kernel_rfl); (focus kernel_rfl))
          | (with_reducible refine aw_label ?_)
          | ((with_reducible refine aw_rfM ?_ ?_); (focus kernel_rfl))
          | (with_reducible refine aw_skip ?_)
          | (with_reducible refine aw_exit ?_)
          | ((with_reducible refine aw_condM ?_ ?_); (focus kernel_rfl))
          | (with_reducible refine aw_ret ?_)
        ); simp only [↓rwp.eq_def, ↓sop.eq_def, ↓slotK.eq_def, inV, shT, unT, inQ, rfQ, rfEnd, resOf, pickT, setP, ydA, ydQ, rowW, vD, fillV,  ↓gop.eq_def, ↓hop.eq_def, ↓hopH.eq_def, ↓hwp.eq_def, ↓ldV.eq_def, ↓ldK.eq_def, ↓ixK.eq_def, ↓addOff.eq_def, ↓exK.eq_def, ↓notK.eq_def, ↓pickK.eq_def, ↓iop2.eq_def, ↓binK.eq_def, ↓eqop.eq_def, icells, ↓iop.eq_def, ↓cutK.eq_def, ↓lenK.eq_def, ↓lenM.eq_def, tyInt, ↓lookK.eq_def, ↓mpK.eq_def, keyV, allI, fitK, lkM, upM, dlM, kq, ↓cvK.eq_def, ↓mmK.eq_def, ↓biK.eq_def, ↓stK.eq_def, ↓apK.eq_def, ↓apD.eq_def, ↓apS.eq_def, nxt, put, setT, setB, delB, lkT_n, lkT_c, lkB_n, lkB_c, ev, ofC, inT, ofA, ofRet, dV_n, dV_c, getD_enc, toDs_dV, List.head?_cons, List.length_map, Option.toArray_some, Option.toArray_none, Int.toNat_natCast, slOf, TyK.agg, vcells, splice, pickOps, zOf, strip, stripP, gOf, allP, rowV, toDs, toD, toA, toAs, headOps, tailOps, isT, addN, Op.operands, Call.operands, List.map_cons, List.map_nil, List.drop_zero, List.drop_succ_cons, List.take_succ_cons, List.take_zero, List.length_cons, List.length_nil, List.getElem?_cons_zero, List.getElem?_cons_succ, List.getElem?_toArray, Option.bind_some, Option.map_some, Option.map_none, List.append_nil, List.nil_append, List.cons_append, if_true, if_false, reduceIte, Nat.reduceEqDiff, Nat.reduceAdd, Nat.reduceSub, Int.reduceToNat, Nat.reduceLeDiff, Nat.reduceLT, and_false, and_self, Nat.zero_add, Nat.add_zero, reduceCtorEq, Option.getD_some, Option.getD_none, Option.isSome_some, Option.isSome_none, forall_const, true_and, and_true, true_implies, Bool.true_and, Bool.false_and, Bool.and_true, Bool.and_false, Bool.true_or, Bool.false_or, Bool.or_true, Bool.or_false, beq_self_eq_true, zipM, zcells, Value.cells, Value.oneCell', List.toList_toArray, Array.toList_append, Bool.not_not, List.cons.injEq, Int.reduceEq, eq_self, false_and, Bool.not_true, Bool.not_false, ne_eq, not_false_eq_true, imp_self, implies_true, av_bt, av_bf, av_and, av_or, av_nf, av_tt, av_n1, av_n2, av_t1, av_tp, retQ, retL, resV, RetV, RetOk, SubL, entD_len, entD_take, entD_hd, entD_ln, entD_ic, entD_d1, entD_d2, entD_d3, entD_d4, entD_d5, entD_d6, entD_d7, ty_39, ty_3, ty_22, ty_89, ty_87, ty_4, kindsD, fnD]; try simp (disch := omega) only [av_w, av_t1, av_tp, Int.toNat_natCast]))
    all_goals (refine Sub.of_eq (congrArg aI ?_); simp only [err1, validE, fitsB, Int.reduceEq, reduceIte, or_true, true_or, or_false, false_or]; grind)
  have hx : -9223372036854775808 ≤ x.kind ∧ x.kind ≤ 9223372036854775807 := hx
  repeat' (first
    | (with_reducible refine aw_seq ?_)
    | ((with_reducible refine twoG_intro ?_ ?_) <;> intro hTw <;> first | (exact Bool.noConfusion hTw) | ((try simp only [hTw, Bool.not_true, Bool.not_false, Bool.true_and, Bool.false_and, Bool.and_true, Bool.and_false, Bool.true_or, Bool.false_or, Bool.or_true, Bool.or_false]); (first | (guard_hyp hTw : true = true; clear hTw) | (guard_hyp hTw : false = false; clear hTw) | (revert hTw; intro _))))
    | ((with_reducible refine two_intro ?_ ?_) <;> intro hTw <;> first | (exact Bool.noConfusion hTw) | ((first | (guard_hyp hTw : true = true; clear hTw) | (guard_hyp hTw : false = false; clear hTw) | (revert hTw; intro _))))
    | ((with_reducible refine And.intro ?_ ?_); (focus (first | exact keyOk_int_ | omega | rfl | decide | grind)))
    | (with_reducible refine aw_block ?_)
    | (with_reducible refine aw_scope ?_)
    | ((first
        | ((with_reducible refine aw_regionA T_ok ?_ ?_); (focus kernel_rfl))
        | ((with_reducible refine aw_drawnA T_ok ?_ ?_ ?_ ?_); (focus kernel_rfl); (focus kernel_rfl); (focus kernel_rfl))
        | ((with_reducible refine callK_intro (gkinds_spec) (by with_unfolding_all rfl) ?_ ?_); (focus kernel_rfl))
        | ((with_reducible refine callI_spec (gkinds_spec) (by with_unfolding_all rfl) ?_ ?_ ?_); (focus kernel_rfl); (focus kernel_rfl))
        | ((with_reducible refine callK_intro (gid_spec _) (by with_unfolding_all rfl) ?_ ?_); (focus kernel_rfl))
        | ((with_reducible refine callI_spec (gid_spec _) (by with_unfolding_all rfl) ?_ ?_ ?_); (focus kernel_rfl); (focus kernel_rfl))
        | ((with_reducible refine callK_intro (gspan_spec _ _) (by with_unfolding_all rfl) ?_ ?_); (focus kernel_rfl))
        | ((with_reducible refine callI_spec (gspan_spec _ _) (by with_unfolding_all rfl) ?_ ?_ ?_); (focus kernel_rfl); (focus kernel_rfl))
        | (with_reducible refine aw_label ?_)
        | ((with_reducible refine aw_rfM ?_ ?_); (focus kernel_rfl))
        | (with_reducible refine aw_skip ?_)
        | (with_reducible refine aw_exit ?_)
        | ((with_reducible refine aw_condM ?_ ?_); (focus kernel_rfl))
        | (with_reducible refine aw_ret ?_)
      ); simp only [↓rwp.eq_def, ↓sop.eq_def, ↓slotK.eq_def, inV, shT, unT, inQ, rfQ, rfEnd, resOf, pickT, setP, ydA, ydQ, rowW, vD, fillV,  ↓gop.eq_def, ↓hop.eq_def, ↓hopH.eq_def, ↓hwp.eq_def, ↓ldV.eq_def, ↓ldK.eq_def, ↓ixK.eq_def, ↓addOff.eq_def, ↓exK.eq_def, ↓notK.eq_def, ↓pickK.eq_def, ↓iop2.eq_def, ↓binK.eq_def, ↓eqop.eq_def, icells, ↓iop.eq_def, ↓cutK.eq_def, ↓lenK.eq_def, ↓lenM.eq_def, tyInt, ↓lookK.eq_def, ↓mpK.eq_def, keyV, allI, fitK, lkM, upM, dlM, kq, ↓cvK.eq_def, ↓mmK.eq_def, ↓biK.eq_def, ↓stK.eq_def, ↓apK.eq_def, ↓apD.eq_def, ↓apS.eq_def, nxt, put, setT, setB, delB, lkT_n, lkT_c, lkB_n, lkB_c, ev, ofC, inT, ofA, ofRet, dV_n, dV_c, getD_enc, toDs_dV, List.head?_cons, List.length_map, Option.toArray_some, Option.toArray_none, Int.toNat_natCast, slOf, TyK.agg, vcells, splice, pickOps, zOf, strip, stripP, gOf, allP, rowV, toDs, toD, toA, toAs, headOps, tailOps, isT, addN, Op.operands, Call.operands, List.map_cons, List.map_nil, List.drop_zero, List.drop_succ_cons, List.take_succ_cons, List.take_zero, List.length_cons, List.length_nil, List.getElem?_cons_zero, List.getElem?_cons_succ, List.getElem?_toArray, Option.bind_some, Option.map_some, Option.map_none, List.append_nil, List.nil_append, List.cons_append, if_true, if_false, reduceIte, Nat.reduceEqDiff, Nat.reduceAdd, Nat.reduceSub, Int.reduceToNat, Nat.reduceLeDiff, Nat.reduceLT, and_false, and_self, Nat.zero_add, Nat.add_zero, reduceCtorEq, Option.getD_some, Option.getD_none, Option.isSome_some, Option.isSome_none, forall_const, true_and, and_true, true_implies, Bool.true_and, Bool.false_and, Bool.and_true, Bool.and_false, Bool.true_or, Bool.false_or, Bool.or_true, Bool.or_false, beq_self_eq_true, zipM, zcells, Value.cells, Value.oneCell', List.toList_toArray, Array.toList_append, Bool.not_not, List.cons.injEq, Int.reduceEq, eq_self, false_and, Bool.not_true, Bool.not_false, ne_eq, not_false_eq_true, imp_self, implies_true, av_bt, av_bf, av_and, av_or, av_nf, av_tt, av_n1, av_n2, av_t1, av_tp, retQ, retL, resV, RetV, RetOk, SubL, entD_len, entD_take, entD_hd, entD_ln, entD_ic, entD_d1, entD_d2, entD_d3, entD_d4, entD_d5, entD_d6, entD_d7, ty_39, ty_3, ty_22, ty_89, ty_87, ty_4, kindsD, fnD, h1, h2, h3, h4]; try simp (disch := omega) only [av_w, av_t1, av_tp, Int.toNat_natCast]))
  · refine Sub.of_eq (congrArg aI ?_)
    simp only [err1, validE, fitsB, h1, h2, h3, h4]
    grind
end Go.Proofs.Ytfmefdeldgmhpaa

namespace Go.Proofs.Ytfmefdeldgmhpaa
set_option linter.unusedSimpArgs false
set_option linter.unusedVariables false
open Go.RowKit
set_option maxRecDepth 100000
set_option maxHeartbeats 4000000
theorem gcheck_spec (l : List Ent) (hl : l.length ≤ 140737488351232) (hk : ∀ k, i64 (l.getD k default).kind) : Spec Try.prog 28 [aEs l] (.r1 (aI (checkL l))) := by
  refine spec_of T_ok Try.func28 (by dsimp only [Try.f28]) rfl rfl (by simp) fun w F => ?_
  repeat' (first
    | (with_reducible refine aw_seq ?_)
    | ((with_reducible refine twoG_intro ?_ ?_) <;> intro hTw <;> first | (exact Bool.noConfusion hTw) | ((try simp only [hTw, Bool.not_true, Bool.not_false, Bool.true_and, Bool.false_and, Bool.and_true, Bool.and_false, Bool.true_or, Bool.false_or, Bool.or_true, Bool.or_false]); (first | (guard_hyp hTw : true = true; clear hTw) | (guard_hyp hTw : false = false; clear hTw) | (revert hTw; intro _))))
    | ((with_reducible refine two_intro ?_ ?_) <;> intro hTw <;> first | (exact Bool.noConfusion hTw) | ((first | (guard_hyp hTw : true = true; clear hTw) | (guard_hyp hTw : false = false; clear hTw) | (revert hTw; intro _))))
    | ((with_reducible refine And.intro ?_ ?_); (focus (first | exact keyOk_int_ | omega | rfl | decide | grind)))
    | (with_reducible refine aw_block ?_)
    | (with_reducible refine aw_scope ?_)
    | ((first
        | ((with_reducible refine aw_regionA T_ok ?_ ?_); (focus kernel_rfl))
        | ((with_reducible refine aw_drawnA T_ok ?_ ?_ ?_ ?_); (focus kernel_rfl); (focus kernel_rfl); (focus kernel_rfl))
        | ((with_reducible refine callK_intro (gcheck1_spec _ (hk _)) (by with_unfolding_all rfl) ?_ ?_); (focus kernel_rfl))
        | ((with_reducible refine callI_spec (gcheck1_spec _ (hk _)) (by with_unfolding_all rfl) ?_ ?_ ?_); (focus kernel_rfl); (focus kernel_rfl))
        | (with_reducible refine aw_label ?_)
        | ((with_reducible refine aw_rfM ?_ ?_); (focus kernel_rfl))
        | (with_reducible refine aw_skip ?_)
        | (with_reducible refine aw_exit ?_)
        | ((with_reducible refine aw_condM ?_ ?_); (focus kernel_rfl))
        | (with_reducible refine aw_ret ?_)
      ); simp only [↓rwp.eq_def, ↓sop.eq_def, ↓slotK.eq_def, inV, shT, unT, inQ, rfQ, rfEnd, resOf, pickT, setP, ydA, ydQ, rowW, vD, fillV,  ↓gop.eq_def, ↓hop.eq_def, ↓hopH.eq_def, ↓hwp.eq_def, ↓ldV.eq_def, ↓ldK.eq_def, ↓ixK.eq_def, ↓addOff.eq_def, ↓exK.eq_def, ↓notK.eq_def, ↓pickK.eq_def, ↓iop2.eq_def, ↓binK.eq_def, ↓eqop.eq_def, icells, ↓iop.eq_def, ↓cutK.eq_def, ↓lenK.eq_def, ↓lenM.eq_def, tyInt, ↓lookK.eq_def, ↓mpK.eq_def, keyV, allI, fitK, lkM, upM, dlM, kq, ↓cvK.eq_def, ↓mmK.eq_def, ↓biK.eq_def, ↓stK.eq_def, ↓apK.eq_def, ↓apD.eq_def, ↓apS.eq_def, nxt, put, setT, setB, delB, lkT_n, lkT_c, lkB_n, lkB_c, ev, ofC, inT, ofA, ofRet, dV_n, dV_c, getD_enc, toDs_dV, List.head?_cons, List.length_map, Option.toArray_some, Option.toArray_none, Int.toNat_natCast, slOf, TyK.agg, vcells, splice, pickOps, zOf, strip, stripP, gOf, allP, rowV, toDs, toD, toA, toAs, headOps, tailOps, isT, addN, Op.operands, Call.operands, List.map_cons, List.map_nil, List.drop_zero, List.drop_succ_cons, List.take_succ_cons, List.take_zero, List.length_cons, List.length_nil, List.getElem?_cons_zero, List.getElem?_cons_succ, List.getElem?_toArray, Option.bind_some, Option.map_some, Option.map_none, List.append_nil, List.nil_append, List.cons_append, if_true, if_false, reduceIte, Nat.reduceEqDiff, Nat.reduceAdd, Nat.reduceSub, Int.reduceToNat, Nat.reduceLeDiff, Nat.reduceLT, and_false, and_self, Nat.zero_add, Nat.add_zero, reduceCtorEq, Option.getD_some, Option.getD_none, Option.isSome_some, Option.isSome_none, forall_const, true_and, and_true, true_implies, Bool.true_and, Bool.false_and, Bool.and_true, Bool.and_false, Bool.true_or, Bool.false_or, Bool.or_true, Bool.or_false, beq_self_eq_true, zipM, zcells, Value.cells, Value.oneCell', List.toList_toArray, Array.toList_append, Bool.not_not, List.cons.injEq, Int.reduceEq, eq_self, false_and, Bool.not_true, Bool.not_false, ne_eq, not_false_eq_true, imp_self, implies_true, av_bt, av_bf, av_and, av_or, av_nf, av_tt, av_n1, av_n2, av_t1, av_tp, retQ, retL, resV, RetV, RetOk, SubL, entD_len, entD_take, entD_hd, entD_ln, entD_ic, entD_d1, entD_d2, entD_d3, entD_d4, entD_d5, entD_d6, entD_d7, ty_39, ty_3, ty_22, ty_89, ty_87]; try simp (disch := omega) only [av_w, av_t1, av_tp, Int.toNat_natCast]))
  · rename_i h
    exact Sub.of_eq (congrArg aI (by simp at h; rw [checkL, if_pos (by omega)]))
  rename_i h
  refine aw_loopI (fun k : Nat => ⟨[(3, vI (lastAt l k)), (10, vEs l), (11, vI l.length), (12, vI k)], [], 0⟩) (fun k => k ≤ l.length ∧ goodL (-1) l = goodL (lastAt l k) (l.drop k)) (fun k => l.length - k) 0 ⟨Nat.zero_le _, rfl⟩ (wk_of [] rfl rfl ?_ ?_) ?_
  · simp only [wkT, wkB, wkB1, subV, subVs, subD, subB, lkN_n, lkN_c, lkT_n, lkT_c, lkB_n, lkB_c, if_true, if_false, reduceIte, Nat.reduceEqDiff, true_and, and_true, and_self, inT, ofA]
    (repeat' (first | exact trivial | rfl | exact rfl | refine And.intro ?_ ?_))
  · simp only [wkT, wkB, wkB1, subV, subVs, subD, subB, lkN_n, lkN_c, lkT_n, lkT_c, lkB_n, lkB_c, if_true, if_false, reduceIte, Nat.reduceEqDiff, true_and, and_true, and_self, inT, ofA]
  rintro k ⟨hk', hg⟩
  repeat' (first
    | (with_reducible refine aw_seq ?_)
    | ((with_reducible refine twoG_intro ?_ ?_) <;> intro hTw <;> first | (exact Bool.noConfusion hTw) | ((try simp only [hTw, Bool.not_true, Bool.not_false, Bool.true_and, Bool.false_and, Bool.and_true, Bool.and_false, Bool.true_or, Bool.false_or, Bool.or_true, Bool.or_false]); (first | (guard_hyp hTw : true = true; clear hTw) | (guard_hyp hTw : false = false; clear hTw) | (revert hTw; intro _))))
    | ((with_reducible refine two_intro ?_ ?_) <;> intro hTw <;> first | (exact Bool.noConfusion hTw) | ((first | (guard_hyp hTw : true = true; clear hTw) | (guard_hyp hTw : false = false; clear hTw) | (revert hTw; intro _))))
    | ((with_reducible refine And.intro ?_ ?_); (focus (first | exact keyOk_int_ | omega | rfl | decide | grind)))
    | (with_reducible refine aw_block ?_)
    | (with_reducible refine aw_scope ?_)
    | ((first
        | ((with_reducible refine aw_regionA T_ok ?_ ?_); (focus kernel_rfl))
        | ((with_reducible refine aw_drawnA T_ok ?_ ?_ ?_ ?_); (focus kernel_rfl); (focus kernel_rfl); (focus kernel_rfl))
        | ((with_reducible refine callK_intro (gcheck1_spec _ (hk _)) (by with_unfolding_all rfl) ?_ ?_); (focus kernel_rfl))
        | ((with_reducible refine callI_spec (gcheck1_spec _ (hk _)) (by with_unfolding_all rfl) ?_ ?_ ?_); (focus kernel_rfl); (focus kernel_rfl))
        | (with_reducible refine aw_label ?_)
        | ((with_reducible refine aw_rfM ?_ ?_); (focus kernel_rfl))
        | (with_reducible refine aw_skip ?_)
        | (with_reducible refine aw_exit ?_)
        | ((with_reducible refine aw_condM ?_ ?_); (focus kernel_rfl))
        | (with_reducible refine aw_ret ?_)
      ); simp only [↓rwp.eq_def, ↓sop.eq_def, ↓slotK.eq_def, inV, shT, unT, inQ, rfQ, rfEnd, resOf, pickT, setP, ydA, ydQ, rowW, vD, fillV,  ↓gop.eq_def, ↓hop.eq_def, ↓hopH.eq_def, ↓hwp.eq_def, ↓ldV.eq_def, ↓ldK.eq_def, ↓ixK.eq_def, ↓addOff.eq_def, ↓exK.eq_def, ↓notK.eq_def, ↓pickK.eq_def, ↓iop2.eq_def, ↓binK.eq_def, ↓eqop.eq_def, icells, ↓iop.eq_def, ↓cutK.eq_def, ↓lenK.eq_def, ↓lenM.eq_def, tyInt, ↓lookK.eq_def, ↓mpK.eq_def, keyV, allI, fitK, lkM, upM, dlM, kq, ↓cvK.eq_def, ↓mmK.eq_def, ↓biK.eq_def, ↓stK.eq_def, ↓apK.eq_def, ↓apD.eq_def, ↓apS.eq_def, nxt, put, setT, setB, delB, lkT_n, lkT_c, lkB_n, lkB_c, ev, ofC, inT, ofA, ofRet, dV_n, dV_c, getD_enc, toDs_dV, List.head?_cons, List.length_map, Option.toArray_some, Option.toArray_none, Int.toNat_natCast, slOf, TyK.agg, vcells, splice, pickOps, zOf, strip, stripP, gOf, allP, rowV, toDs, toD, toA, toAs, headOps, tailOps, isT, addN, Op.operands, Call.operands, List.map_cons, List.map_nil, List.drop_zero, List.drop_succ_cons, List.take_succ_cons, List.take_zero, List.length_cons, List.length_nil, List.getElem?_cons_zero, List.getElem?_cons_succ, List.getElem?_toArray, Option.bind_some, Option.map_some, Option.map_none, List.append_nil, List.nil_append, List.cons_append, if_true, if_false, reduceIte, Nat.reduceEqDiff, Nat.reduceAdd, Nat.reduceSub, Int.reduceToNat, Nat.reduceLeDiff, Nat.reduceLT, and_false, and_self, Nat.zero_add, Nat.add_zero, reduceCtorEq, Option.getD_some, Option.getD_none, Option.isSome_some, Option.isSome_none, forall_const, true_and, and_true, true_implies, Bool.true_and, Bool.false_and, Bool.and_true, Bool.and_false, Bool.true_or, Bool.false_or, Bool.or_true, Bool.or_false, beq_self_eq_true, zipM, zcells, Value.cells, Value.oneCell', List.toList_toArray, Array.toList_append, Bool.not_not, List.cons.injEq, Int.reduceEq, eq_self, false_and, Bool.not_true, Bool.not_false, ne_eq, not_false_eq_true, imp_self, implies_true, av_bt, av_bf, av_and, av_or, av_nf, av_tt, av_n1, av_n2, av_t1, av_tp, retQ, retL, resV, RetV, RetOk, SubL, entD_len, entD_take, entD_hd, entD_ln, entD_ic, entD_d1, entD_d2, entD_d3, entD_d4, entD_d5, entD_d6, entD_d7, ty_39, ty_3, ty_22, ty_89, ty_87]; try simp (disch := omega) only [av_w, av_t1, av_tp, Int.toNat_natCast]))
  · rename_i h1 h2
    have hlt : k < l.length := by simp at h1; omega
    have h0 := validE_no (l.getD k default)
    refine Sub.of_eq (congrArg aI ?_)
    rw [checkL, if_neg (by simp at h; omega), hg, goodL_at l k hlt]
    simp only [lastAt, err1] at *
    grind
  · rename_i h1 h2
    have hlt : k < l.length := by simp at h1; omega
    have h0 := validE_no (l.getD k default)
    refine ⟨k + 1, ⟨by omega, ?_⟩, by dsimp only; omega, wk_of [] rfl rfl ?_ ?_⟩
    · rw [hg, goodL_at l k hlt]
      simp only [lastAt, err1] at *
      grind
    · simp only [wkT, wkB, wkB1, subV, subVs, subD, subB, lkN_n, lkN_c, lkT_n, lkT_c, lkB_n, lkB_c, if_true, if_false, reduceIte, Nat.reduceEqDiff, true_and, and_true, and_self, inT, ofA]
      (repeat' (first | exact trivial | rfl | exact rfl | refine And.intro ?_ ?_))
    · simp only [wkT, wkB, wkB1, subV, subVs, subD, subB, lkN_n, lkN_c, lkT_n, lkT_c, lkB_n, lkB_c, if_true, if_false, reduceIte, Nat.reduceEqDiff, true_and, and_true, and_self, inT, ofA]
  · rename_i h1
    have hk2 : k = l.length := by simp at h1; omega
    subst hk2
    refine Sub.of_eq (congrArg aI ?_)
    rw [checkL, if_neg (by simp at h; omega), hg, List.drop_length, goodL, if_pos rfl]
end Go.Proofs.Ytfmefdeldgmhpaa

namespace Go.Proofs.Ytfmefdeldgmhpaa
set_option linter.unusedVariables false
set_option linter.unusedSimpArgs false
open Go.RowKit
section
variable {α : Type}
abbrev AM (α : Type) := List (List Int × α)
def lkA (c : List Int) : AM α → Option α
  | [] => none
  | (d, x) :: l => if c = d then some x else lkA c l
def upA (c : List Int) (v : α) : AM α → AM α
  | [] => [(c, v)]
  | (d, x) :: l => if c = d then (c, v) :: l else (d, x) :: upA c v l
def dlA (c : List Int) : AM α → AM α
  | [] => []
  | (d, x) :: l => if c = d then l else (d, x) :: dlA c l
def mpV (f : α → V) : AM α → List (List Int × V)
  | [] => []
  | (d, x) :: l => (d, f x) :: mpV f l
theorem mpV_nil (f : α → V) : mpV f [] = [] := rfl
theorem lkM_mpV (f : α → V) (c : List Int) : ∀ m : AM α, lkM c (mpV f m) = (lkA c m).map f
  | [] => rfl
  | (d, x) :: l => by
    simp only [mpV, lkM, lkA]
    split
    · rfl
    · exact lkM_mpV f c l
theorem upM_mpV (f : α → V) (c : List Int) (v : α) : ∀ m : AM α, upM c (f v) (mpV f m) = mpV f (upA c v m)
  | [] => rfl
  | (d, x) :: l => by
    simp only [mpV, upM, upA]
    split
    · rfl
    · rw [mpV, upM_mpV f c v l]
theorem dlM_mpV (f : α → V) (c : List Int) : ∀ m : AM α, dlM c (mpV f m) = mpV f (dlA c m)
  | [] => rfl
  | (d, x) :: l => by
    simp only [mpV, dlM, dlA]
    split
    · rfl
    · rw [mpV, dlM_mpV f c l]
theorem mpV_length (f : α → V) : ∀ m : AM α, (mpV f m).length = m.length
  | [] => rfl
  | (d, x) :: l => by simp only [mpV, List.length_cons, mpV_length f l]
theorem mpV_keys (f : α → V) : ∀ m : AM α, (mpV f m).map (·.1) = m.map (·.1)
  | [] => rfl
  | (d, x) :: l => by simp only [mpV, List.map_cons, mpV_keys f l]
theorem mpV_get (f : α → V) : ∀ (m : AM α) (i : Nat), (mpV f m)[i]? = m[i]?.map fun p => (p.1, f p.2)
  | [], i => by simp [mpV]
  | (d, x) :: l, 0 => by simp [mpV]
  | (d, x) :: l, i + 1 => by simpa [mpV] using mpV_get f l i
theorem zipM_mpV (g : α → D) (f : α → V) (h : ∀ x, vD (g x) = f x) : ∀ m : AM α, zipM (m.map (·.1)) (m.map (fun p => g p.2)) = mpV f m
  | [] => rfl
  | (d, x) :: l => by simp only [List.map_cons, zipM, mpV, h, zipM_mpV g f h l]
theorem lkA_upA (c d : List Int) (v : α) : ∀ m : AM α, lkA c (upA d v m) = if c = d then some v else lkA c m
  | [] => by simp only [upA, lkA]
  | (e, x) :: l => by
    simp only [upA]
    by_cases h : d = e
    · subst h
      rw [if_pos rfl]
      simp only [lkA]
      split <;> rfl
    · rw [if_neg h]
      simp only [lkA, lkA_upA c d v l]
      by_cases h1 : c = e
      · subst h1
        rw [if_pos rfl, if_neg (fun e => h e.symm), if_pos rfl]
      · rw [if_neg h1, if_neg h1]
theorem lkA_mem {c : List Int} {v : α} : ∀ {m : AM α}, lkA c m = some v → (c, v) ∈ m
  | (d, x) :: l, h => by
    simp only [lkA] at h
    split at h
    · rename_i e; cases h; subst e; simp
    · exact List.mem_cons_of_mem _ (lkA_mem h)
theorem lkA_none {c : List Int} : ∀ {m : AM α}, lkA c m = none ↔ c ∉ m.map (·.1)
  | [] => by simp [lkA]
  | (d, x) :: l => by
    simp only [lkA, List.map_cons, List.mem_cons, not_or]
    by_cases h : c = d
    · simp [h]
    · simp only [if_neg h, lkA_none (m := l)]
      exact ⟨fun hh => ⟨h, hh⟩, fun hh => hh.2⟩
theorem subM_mpV {ρ : Ren} {f : α → V} (h : ∀ a, subV ρ (f a) (f a)) : ∀ {m m' : AM α}, m = m' → subM ρ (mpV f m) (mpV f m')
  | [], _, e => by subst e; trivial
  | (d, a) :: m, _, e => by subst e; exact ⟨⟨rfl, h a⟩, subM_mpV h rfl⟩
theorem subVs_dV (ρ : Ren) : ∀ ds : List D, (∀ d ∈ ds, subD d d) → subVs ρ (dV ds) (dV ds)
  | [], _ => by simp only [dV, List.map_nil, subVs]
  | d :: ds, h => by
    have := subVs_dV ρ ds (fun x hx => h x (by simp [hx]))
    simp only [dV, List.map_cons, subVs, subV] at this ⊢
    exact ⟨h d (by simp), this⟩
end
end Go.Proofs.Ytfmefdeldgmhpaa

namespace Go.Proofs.Ytfmefdeldgmhpaa
set_option linter.unusedSimpArgs false
set_option linter.unusedVariables false
open Go.RowKit
def entV (e : Ent) : V := .agg (dV (entD e))
theorem upM_ent (c : List Int) (y : Ent) (m : AM Ent) : upM c (.agg (dV (entD y))) (mpV entV m) = mpV entV (upA c y m) := upM_mpV entV c y m
theorem lkM_ent (c : List Int) (m : AM Ent) : lkM c (mpV entV m) = (lkA c m).map entV := lkM_mpV entV c m
set_option maxRecDepth 100000
set_option maxHeartbeats 4000000
theorem keyOk_pair_ : KeyOk Try.prog 76 (.p 2) := keyOk_pair (e := 3) ⟨Try.underlying76, by kernel_rfl, by kernel_rfl, by kernel_rfl⟩ Try.underlying3 ⟨Try.prog.types.size - 1, by kernel_rfl⟩
theorem eqEnt_ : EqInts Try.prog 39 8 := eqInts_struct (by kernel_rfl) (by kernel_rfl) (by kernel_rfl) (by kernel_rfl) (by kernel_rfl)
def stepM (m : AM Ent) (y : Ent) : AM Ent := match lkA [y.kind, y.a] m with
  | some o => if o.frm ≤ y.frm then upA [y.kind, y.a] y m else m
  | none => upA [y.kind, y.a] y m
def cAt (l : List Ent) (day time : Int) (k : Nat) : List Ent := (l.take k).filter (countsB day time)
theorem cAt_succ (l : List Ent) (day time : Int) (k : Nat) (h : k < l.length) : cAt l day time (k + 1) = cAt l day time k ++ (if countsB day time (l.getD k default) = true then [l.getD k default] else []) := by
  unfold cAt
  rw [List.take_succ_eq_append_getElem h, List.filter_append]
  have : l.getD k default = l[k] := by simp [List.getD, h]
  rw [this]
  congr 1
  simp only [List.filter_cons, List.filter_nil]
def mAt (l : List Ent) (day time : Int) (k : Nat) : AM Ent := (cAt l day time k).foldl stepM []
theorem mAt_succ (l : List Ent) (day time : Int) (k : Nat) (h : k < l.length) : mAt l day time (k + 1) = if countsB day time (l.getD k default) = true then stepM (mAt l day time k) (l.getD k default) else mAt l day time k := by
  unfold mAt
  rw [cAt_succ l day time k h, List.foldl_append]
  split <;> rfl
theorem lkA_last : ∀ (c : List Ent) (m : AM Ent) (m' : KMap), (∀ κ : Int × Int, lkA [κ.1, κ.2] m = m' κ) → ∀ κ : Int × Int, lkA [κ.1, κ.2] (c.foldl stepM m) = c.foldl KMap.put m' κ
  | [], m, m', h, κ => h κ
  | y :: c, m, m', h, κ => by
    refine lkA_last c (stepM m y) (m'.put y) (fun κ => ?_) κ
    have hy := h y.key
    simp only [Ent.key] at hy
    have hup : ∀ κ : Int × Int, lkA [κ.1, κ.2] (upA [y.kind, y.a] y m) = m'.upd y κ := fun κ => by
      rw [lkA_upA]
      unfold KMap.upd
      by_cases hk : κ = y.key
      · rw [if_pos hk, if_pos (by rw [hk]; rfl)]
      · rw [if_neg hk, if_neg (fun e => hk (by
          simp only [List.cons.injEq, and_true] at e
          exact Prod.ext e.1 e.2)), h κ]
    unfold stepM KMap.put
    simp only [Ent.key]
    rw [hy]
    cases m' (y.kind, y.a) with
    | none => exact hup κ
    | some o =>
      by_cases ho : o.frm ≤ y.frm
      · simp only [if_pos ho]; exact hup κ
      · simp only [if_neg ho]; exact h κ
def srcAt (l : List Ent) (day time : Int) (k : Nat) : List Ent := (cAt l day time k).filter (fun y => !oneB y || lkA [y.kind, y.a] (mAt l day time l.length) == some y)
theorem srcAt_succ (l : List Ent) (day time : Int) (k : Nat) (h : k < l.length) : srcAt l day time (k + 1) = srcAt l day time k ++ (if (countsB day time (l.getD k default) && (!oneB (l.getD k default) || lkA [(l.getD k default).kind, (l.getD k default).a] (mAt l day time l.length) == some (l.getD k default))) = true then [l.getD k default] else []) := by
  unfold srcAt
  rw [cAt_succ l day time k h, List.filter_append]
  congr 1
  by_cases hc : countsB day time (l.getD k default) = true
  · rw [if_pos hc, hc, Bool.true_and, List.filter_cons, List.filter_nil]
  · have hc' : countsB day time (l.getD k default) = false := by simpa using hc
    rw [hc']; rfl
theorem srcAt_len (l : List Ent) (day time : Int) (k : Nat) : (srcAt l day time k).length ≤ k := by
  unfold srcAt cAt
  exact Nat.le_trans (List.length_filter_le _ _) (Nat.le_trans (List.length_filter_le _ _) (List.length_take_le _ _))
theorem srcAt_all (l : List Ent) (day time : Int) : srcAt l day time l.length = standSrc day time l := by
  unfold srcAt standSrc
  have hc : cAt l day time l.length = l.filter (countsB day time) := by rw [cAt, List.take_length]
  rw [hc]
  refine List.filter_congr fun y _ => ?_
  have := lkA_last (l.filter (countsB day time)) [] (fun _ => none) (fun _ => rfl) y.key
  simp only [Ent.key] at this
  rw [mAt, hc, this]
  rfl
theorem entEq (o y : Ent) : ([o.no, o.kind, o.a, o.b, o.frm, o.til, o.known, o.gone] == [y.no, y.kind, y.a, y.b, y.frm, y.til, y.known, y.gone]) = decide (o = y) := by
  cases o; cases y
  rw [Bool.eq_iff_iff]
  simp
theorem subV_ent (ρ : Ren) (e : Ent) : subV ρ (entV e) (entV e) := by
  unfold entV
  simp only [subV]
  exact subVs_dV ρ _ (fun d hd => by
    simp only [entD, List.mem_cons, List.not_mem_nil, or_false] at hd
    rcases hd with rfl | rfl | rfl | rfl | rfl | rfl | rfl | rfl <;> rfl)
theorem gstanding_spec (l : List Ent) (day time : Int) (hl : l.length ≤ 140737488351232) (hk : ∀ k, i64 (l.getD k default).kind) : Spec Try.prog 23 [aEs l, aI day, aI time] (.rt [aEs (standE l day time), aI (errS l day time)]) := by
  refine spec_of T_ok Try.func23 (by dsimp only [Try.f23]) rfl rfl (by simp) fun w F => ?_
  repeat' (first
    | (with_reducible refine aw_seq ?_)
    | ((with_reducible refine twoG_intro ?_ ?_) <;> intro hTw <;> first | (exact Bool.noConfusion hTw) | ((try simp only [hTw, Bool.not_true, Bool.not_false, Bool.true_and, Bool.false_and, Bool.and_true, Bool.and_false, Bool.true_or, Bool.false_or, Bool.or_true, Bool.or_false]); (first | (guard_hyp hTw : true = true; clear hTw) | (guard_hyp hTw : false = false; clear hTw) | (revert hTw; intro _))))
    | ((with_reducible refine two_intro ?_ ?_) <;> intro hTw <;> first | (exact Bool.noConfusion hTw) | ((first | (guard_hyp hTw : true = true; clear hTw) | (guard_hyp hTw : false = false; clear hTw) | (revert hTw; intro _))))
    | ((with_reducible refine And.intro ?_ ?_); (focus (first | exact keyOk_pair_ | exact eqEnt_ | omega | rfl | decide | grind)))
    | (with_reducible refine aw_block ?_)
    | (with_reducible refine aw_scope ?_)
    | ((first
        | ((with_reducible refine aw_regionA T_ok ?_ ?_); (focus kernel_rfl))
        | ((with_reducible refine aw_drawnA T_ok ?_ ?_ ?_ ?_); (focus kernel_rfl); (focus kernel_rfl); (focus kernel_rfl))
        | ((with_reducible refine callK_intro (gcheck_spec l hl hk) (by with_unfolding_all rfl) ?_ ?_); (focus kernel_rfl))
        | ((with_reducible refine callI_spec (gcheck_spec l hl hk) (by with_unfolding_all rfl) ?_ ?_ ?_); (focus kernel_rfl); (focus kernel_rfl))
        | ((with_reducible apply callI_in T_ok Try.func49); (focus (dsimp only [Try.f49])); (focus rfl); (focus rfl); (focus kernel_rfl); (focus exact of_decide_eq_true (by kernel_rfl)); (focus kernel_rfl); (focus kernel_rfl); intro _)
        | ((with_reducible apply rfI_in Try.func59); (focus (dsimp only [Try.f59])); (focus (dsimp only [Base.inn, Base.inr])); (focus rfl); (focus rfl); (focus kernel_rfl); (focus exact of_decide_eq_true (by kernel_rfl)); (focus kernel_rfl); intro aL L hLp hLa hLb hLt)
        | (with_reducible refine aw_label ?_)
        | ((with_reducible refine aw_rfM ?_ ?_); (focus kernel_rfl))
        | (with_reducible refine aw_skip ?_)
        | (with_reducible refine aw_exit ?_)
        | ((with_reducible refine aw_condM ?_ ?_); (focus kernel_rfl))
        | (with_reducible refine aw_ret ?_)
      ); simp only [↓rwp.eq_def, ↓sop.eq_def, ↓slotK.eq_def, inV, shT, unT, inQ, rfQ, rfEnd, resOf, pickT, setP, ydA, ydQ, rowW, vD, fillV,  ↓gop.eq_def, ↓hop.eq_def, ↓hopH.eq_def, ↓hwp.eq_def, ↓ldV.eq_def, ↓ldK.eq_def, ↓ixK.eq_def, ↓addOff.eq_def, ↓exK.eq_def, ↓notK.eq_def, ↓pickK.eq_def, ↓iop2.eq_def, ↓binK.eq_def, ↓eqop.eq_def, icells, ↓iop.eq_def, ↓cutK.eq_def, ↓lenK.eq_def, ↓lenM.eq_def, tyInt, ↓lookK.eq_def, ↓mpK.eq_def, keyV, allI, fitK, lkM, upM, dlM, kq, ↓cvK.eq_def, ↓mmK.eq_def, ↓biK.eq_def, ↓stK.eq_def, ↓apK.eq_def, ↓apD.eq_def, ↓apS.eq_def, nxt, put, setT, setB, delB, lkT_n, lkT_c, lkB_n, lkB_c, ev, ofC, inT, ofA, ofRet, dV_n, dV_c, getD_enc, toDs_dV, List.head?_cons, List.length_map, Option.toArray_some, Option.toArray_none, Int.toNat_natCast, slOf, TyK.agg, vcells, splice, pickOps, zOf, strip, stripP, gOf, allP, rowV, toDs, toD, toA, toAs, headOps, tailOps, isT, addN, Op.operands, Call.operands, List.map_cons, List.map_nil, List.drop_zero, List.drop_succ_cons, List.take_succ_cons, List.take_zero, List.length_cons, List.length_nil, List.getElem?_cons_zero, List.getElem?_cons_succ, List.getElem?_toArray, Option.bind_some, Option.map_some, Option.map_none, List.append_nil, List.nil_append, List.cons_append, if_true, if_false, reduceIte, Nat.reduceEqDiff, Nat.reduceAdd, Nat.reduceSub, Int.reduceToNat, Nat.reduceLeDiff, Nat.reduceLT, and_false, and_self, Nat.zero_add, Nat.add_zero, reduceCtorEq, Option.getD_some, Option.getD_none, Option.isSome_some, Option.isSome_none, forall_const, true_and, and_true, true_implies, Bool.true_and, Bool.false_and, Bool.and_true, Bool.and_false, Bool.true_or, Bool.false_or, Bool.or_true, Bool.or_false, beq_self_eq_true, zipM, zcells, Value.cells, Value.oneCell', List.toList_toArray, Array.toList_append, Bool.not_not, List.cons.injEq, Int.reduceEq, eq_self, false_and, Bool.not_true, Bool.not_false, ne_eq, not_false_eq_true, imp_self, implies_true, av_bt, av_bf, av_and, av_or, av_nf, av_tt, av_n1, av_n2, av_t1, av_tp, retQ, retL, resV, RetV, RetOk, SubL, entD_len, entD_take, entD_hd, entD_ln, entD_ic, entD_d1, entD_d2, entD_d3, entD_d4, entD_d5, entD_d6, entD_d7, ty_39, ty_3, ty_22, ty_72, ty_76, ty_4, upM_ent, lkM_ent, entV]; try simp (disch := omega) only [av_w, av_t1, av_tp, Int.toNat_natCast]))
  rotate_left 2
  · rename_i h1 h1b _
    have hc : checkL l = 0 := by simpa using h1
    have he : errS l day time = 0 := by simp [errS, hc] at h1b ⊢; grind
    obtain ⟨hc1, hc2, hc3⟩ := checkL_ok hc
    refine aw_loopI (fun k : Nat => ⟨[(0, .yl 6), (1, .ptr 3 0), (2, .ptr 4 0), (3, .ptr 5 0), (42, vEs l), (43, vI day), (44, vI time), (48, .ptr 0 0), (49, vI 0), (51, .ptr 2 0), (7, vEs l), (8, vI l.length), (9, vI k)],
      [(6, .loop L .ready none), (5, .cells 3 [vI time]), (4, .cells 3 [vI day]), (3, .cells 22 [vEs l]), (2, .cells 72 [.mp 1]), (1, .map (.p 2) 76 (.agg (Array.replicate 8 (.int .i64 0))) (entV default) (mpV entV (mAt l day time k))), (0, .cells 22 [.d (.c (.slice none 0 0))])], 7⟩)
      (fun k => k ≤ l.length) (fun k => l.length - k) 0 (Nat.zero_le _) (wk_of [(0, some 0), (1, some 1), (2, some 2), (3, some 3), (4, some 4), (5, some 5), (6, some 6)] rfl rfl ?_ ?_) ?_
    · simp only [wkT, wkB, wkB1, subV, subVs, subD, subB, lkN_n, lkN_c, lkT_n, lkT_c, lkB_n, lkB_c, if_true, if_false, reduceIte, Nat.reduceEqDiff, true_and, and_true, and_self, inT, ofA]
      rfl
    · simp only [wkT, wkB, wkB1, subV, subVs, subD, subB, lkN_n, lkN_c, lkT_n, lkT_c, lkB_n, lkB_c, if_true, if_false, reduceIte, Nat.reduceEqDiff, true_and, and_true, and_self, inT, ofA]
      exact ⟨rfl, subV_ent _ default, trivial⟩
    intro k hk'
    repeat' (first
      | (with_reducible refine aw_seq ?_)
      | ((with_reducible refine twoG_intro ?_ ?_) <;> intro hTw <;> first | (exact Bool.noConfusion hTw) | ((try simp only [hTw, Bool.not_true, Bool.not_false, Bool.true_and, Bool.false_and, Bool.and_true, Bool.and_false, Bool.true_or, Bool.false_or, Bool.or_true, Bool.or_false]); (first | (guard_hyp hTw : true = true; clear hTw) | (guard_hyp hTw : false = false; clear hTw) | (revert hTw; intro _))))
      | ((with_reducible refine two_intro ?_ ?_) <;> intro hTw <;> first | (exact Bool.noConfusion hTw) | ((first | (guard_hyp hTw : true = true; clear hTw) | (guard_hyp hTw : false = false; clear hTw) | (revert hTw; intro _))))
      | ((with_reducible refine And.intro ?_ ?_); (focus (first | exact keyOk_pair_ | exact eqEnt_ | omega | rfl | decide | grind)))
      | (with_reducible refine aw_block ?_)
      | (with_reducible refine aw_scope ?_)
      | ((first
          | ((with_reducible refine aw_regionA T_ok ?_ ?_); (focus kernel_rfl))
          | ((with_reducible refine aw_drawnA T_ok ?_ ?_ ?_ ?_); (focus kernel_rfl); (focus kernel_rfl); (focus kernel_rfl))
          | (with_reducible refine aw_label ?_)
          | ((with_reducible refine aw_rfM ?_ ?_); (focus kernel_rfl))
          | (with_reducible refine aw_skip ?_)
          | (with_reducible refine aw_exit ?_)
          | ((with_reducible refine aw_condM ?_ ?_); (focus kernel_rfl))
          | (with_reducible refine aw_ret ?_)
        ); simp only [↓rwp.eq_def, ↓sop.eq_def, ↓slotK.eq_def, inV, shT, unT, inQ, rfQ, rfEnd, resOf, pickT, setP, ydA, ydQ, rowW, vD, fillV,  ↓gop.eq_def, ↓hop.eq_def, ↓hopH.eq_def, ↓hwp.eq_def, ↓ldV.eq_def, ↓ldK.eq_def, ↓ixK.eq_def, ↓addOff.eq_def, ↓exK.eq_def, ↓notK.eq_def, ↓pickK.eq_def, ↓iop2.eq_def, ↓binK.eq_def, ↓eqop.eq_def, icells, ↓iop.eq_def, ↓cutK.eq_def, ↓lenK.eq_def, ↓lenM.eq_def, tyInt, ↓lookK.eq_def, ↓mpK.eq_def, keyV, allI, fitK, lkM, upM, dlM, kq, ↓cvK.eq_def, ↓mmK.eq_def, ↓biK.eq_def, ↓stK.eq_def, ↓apK.eq_def, ↓apD.eq_def, ↓apS.eq_def, nxt, put, setT, setB, delB, lkT_n, lkT_c, lkB_n, lkB_c, ev, ofC, inT, ofA, ofRet, dV_n, dV_c, getD_enc, toDs_dV, List.head?_cons, List.length_map, Option.toArray_some, Option.toArray_none, Int.toNat_natCast, slOf, TyK.agg, vcells, splice, pickOps, zOf, strip, stripP, gOf, allP, rowV, toDs, toD, toA, toAs, headOps, tailOps, isT, addN, Op.operands, Call.operands, List.map_cons, List.map_nil, List.drop_zero, List.drop_succ_cons, List.take_succ_cons, List.take_zero, List.length_cons, List.length_nil, List.getElem?_cons_zero, List.getElem?_cons_succ, List.getElem?_toArray, Option.bind_some, Option.map_some, Option.map_none, List.append_nil, List.nil_append, List.cons_append, if_true, if_false, reduceIte, Nat.reduceEqDiff, Nat.reduceAdd, Nat.reduceSub, Int.reduceToNat, Nat.reduceLeDiff, Nat.reduceLT, and_false, and_self, Nat.zero_add, Nat.add_zero, reduceCtorEq, Option.getD_some, Option.getD_none, Option.isSome_some, Option.isSome_none, forall_const, true_and, and_true, true_implies, Bool.true_and, Bool.false_and, Bool.and_true, Bool.and_false, Bool.true_or, Bool.false_or, Bool.or_true, Bool.or_false, beq_self_eq_true, zipM, zcells, Value.cells, Value.oneCell', List.toList_toArray, Array.toList_append, Bool.not_not, List.cons.injEq, Int.reduceEq, eq_self, false_and, Bool.not_true, Bool.not_false, ne_eq, not_false_eq_true, imp_self, implies_true, av_bt, av_bf, av_and, av_or, av_nf, av_tt, av_n1, av_n2, av_t1, av_tp, retQ, retL, resV, RetV, RetOk, SubL, entD_len, entD_take, entD_hd, entD_ln, entD_ic, entD_d1, entD_d2, entD_d3, entD_d4, entD_d5, entD_d6, entD_d7, ty_39, ty_3, ty_22, ty_72, ty_76, ty_4, upM_ent, lkM_ent, entV]; try simp (disch := omega) only [av_w, av_t1, av_tp, Int.toNat_natCast]))
    · rename_i h2 h3
      have hlt : k < l.length := by simp at h2; omega
      have hv : validE (l.getD k default) = true := hc3 _ (by simp [List.getD, hlt])
      have hb : ((1 ≤ (l.getD k default).kind ∧ (l.getD k default).kind ≤ 4) ∧ 0 ≤ (l.getD k default).a ∧ (l.getD k default).a ≤ 1048576) := by
        simp only [validE, fitsB, idB] at hv
        grind
      have hs := mAt_succ l day time k hlt
      rw [if_pos (show countsB day time (l.getD k default) = true from h3)] at hs
      cases hm : lkA [(l.getD k default).kind, (l.getD k default).a] (mAt l day time k) with
      | none =>
        have hs : mAt l day time (k + 1) = upA [(l.getD k default).kind, (l.getD k default).a] (l.getD k default) (mAt l day time k) := by rw [hs, stepM, hm]
        repeat' (first
          | (with_reducible refine aw_seq ?_)
          | ((with_reducible refine twoG_intro ?_ ?_) <;> intro hTw <;> first | (exact Bool.noConfusion hTw) | ((try simp only [hTw, Bool.not_true, Bool.not_false, Bool.true_and, Bool.false_and, Bool.and_true, Bool.and_false, Bool.true_or, Bool.false_or, Bool.or_true, Bool.or_false]); (first | (guard_hyp hTw : true = true; clear hTw) | (guard_hyp hTw : false = false; clear hTw) | (revert hTw; intro _))))
          | ((with_reducible refine two_intro ?_ ?_) <;> intro hTw <;> first | (exact Bool.noConfusion hTw) | ((first | (guard_hyp hTw : true = true; clear hTw) | (guard_hyp hTw : false = false; clear hTw) | (revert hTw; intro _))))
          | ((with_reducible refine And.intro ?_ ?_); (focus (first | exact keyOk_pair_ | exact eqEnt_ | omega | rfl | decide | grind)))
          | (with_reducible refine aw_block ?_)
          | (with_reducible refine aw_scope ?_)
          | ((first
              | ((with_reducible refine aw_regionA T_ok ?_ ?_); (focus kernel_rfl))
              | ((with_reducible refine aw_drawnA T_ok ?_ ?_ ?_ ?_); (focus kernel_rfl); (focus kernel_rfl); (focus kernel_rfl))
              | ((with_reducible apply yieldI_in 0 0 (hL1 := hLp) (hL2 := hLa) (hL3 := hLb) (hsz := hLt.1)); (focus rfl); (focus rfl); (focus rfl); (focus kernel_rfl); (focus (dsimp only [Base.inn, Base.inr])); (focus exact (fun t ht => (hLt.2 t ht).trans (by rw [Nat.zero_add]; rfl))); (focus kernel_rfl); intro _)
              | (with_reducible refine aw_label ?_)
              | ((with_reducible refine aw_rfM ?_ ?_); (focus kernel_rfl))
              | (with_reducible refine aw_skip ?_)
              | (with_reducible refine aw_exit ?_)
              | ((with_reducible refine aw_condM ?_ ?_); (focus kernel_rfl))
              | (with_reducible refine aw_ret ?_)
            ); simp only [↓rwp.eq_def, ↓sop.eq_def, ↓slotK.eq_def, inV, shT, unT, inQ, rfQ, rfEnd, resOf, pickT, setP, ydA, ydQ, rowW, vD, fillV,  ↓gop.eq_def, ↓hop.eq_def, ↓hopH.eq_def, ↓hwp.eq_def, ↓ldV.eq_def, ↓ldK.eq_def, ↓ixK.eq_def, ↓addOff.eq_def, ↓exK.eq_def, ↓notK.eq_def, ↓pickK.eq_def, ↓iop2.eq_def, ↓binK.eq_def, ↓eqop.eq_def, icells, ↓iop.eq_def, ↓cutK.eq_def, ↓lenK.eq_def, ↓lenM.eq_def, tyInt, ↓lookK.eq_def, ↓mpK.eq_def, keyV, allI, fitK, lkM, upM, dlM, kq, ↓cvK.eq_def, ↓mmK.eq_def, ↓biK.eq_def, ↓stK.eq_def, ↓apK.eq_def, ↓apD.eq_def, ↓apS.eq_def, nxt, put, setT, setB, delB, lkT_n, lkT_c, lkB_n, lkB_c, ev, ofC, inT, ofA, ofRet, dV_n, dV_c, getD_enc, toDs_dV, List.head?_cons, List.length_map, Option.toArray_some, Option.toArray_none, Int.toNat_natCast, slOf, TyK.agg, vcells, splice, pickOps, zOf, strip, stripP, gOf, allP, rowV, toDs, toD, toA, toAs, headOps, tailOps, isT, addN, Op.operands, Call.operands, List.map_cons, List.map_nil, List.drop_zero, List.drop_succ_cons, List.take_succ_cons, List.take_zero, List.length_cons, List.length_nil, List.getElem?_cons_zero, List.getElem?_cons_succ, List.getElem?_toArray, Option.bind_some, Option.map_some, Option.map_none, List.append_nil, List.nil_append, List.cons_append, if_true, if_false, reduceIte, Nat.reduceEqDiff, Nat.reduceAdd, Nat.reduceSub, Int.reduceToNat, Nat.reduceLeDiff, Nat.reduceLT, and_false, and_self, Nat.zero_add, Nat.add_zero, reduceCtorEq, Option.getD_some, Option.getD_none, Option.isSome_some, Option.isSome_none, forall_const, true_and, and_true, true_implies, Bool.true_and, Bool.false_and, Bool.and_true, Bool.and_false, Bool.true_or, Bool.false_or, Bool.or_true, Bool.or_false, beq_self_eq_true, zipM, zcells, Value.cells, Value.oneCell', List.toList_toArray, Array.toList_append, Bool.not_not, List.cons.injEq, Int.reduceEq, eq_self, false_and, Bool.not_true, Bool.not_false, ne_eq, not_false_eq_true, imp_self, implies_true, av_bt, av_bf, av_and, av_or, av_nf, av_tt, av_n1, av_n2, av_t1, av_tp, retQ, retL, resV, RetV, RetOk, SubL, entD_len, entD_take, entD_hd, entD_ln, entD_ic, entD_d1, entD_d2, entD_d3, entD_d4, entD_d5, entD_d6, entD_d7, ty_39, ty_3, ty_22, ty_72, ty_76, ty_4, upM_ent, lkM_ent, entV, hm]; try simp (disch := omega) only [av_w, av_t1, av_tp, Int.toNat_natCast]))
        refine ⟨k + 1, by omega, by dsimp only; omega, wk_of [(0, some 0), (1, some 1), (2, some 2), (3, some 3), (4, some 4), (5, some 5), (6, some 6)] rfl rfl ?_ ?_⟩
        · simp only [wkT, wkB, wkB1, subV, subVs, subD, subB, lkN_n, lkN_c, lkT_n, lkT_c, lkB_n, lkB_c, if_true, if_false, reduceIte, Nat.reduceEqDiff, true_and, and_true, and_self, inT, ofA]
          (repeat' (first | exact trivial | rfl | exact rfl | refine And.intro ?_ ?_))
        · simp only [wkT, wkB, wkB1, subV, subVs, subD, subB, lkN_n, lkN_c, lkT_n, lkT_c, lkB_n, lkB_c, if_true, if_false, reduceIte, Nat.reduceEqDiff, true_and, and_true, and_self, inT, ofA]
          exact ⟨subV_ent _ default, subM_mpV (subV_ent _) hs.symm⟩
      | some o =>
        rw [stepM, hm] at hs
        repeat' (first
          | (with_reducible refine aw_seq ?_)
          | ((with_reducible refine twoG_intro ?_ ?_) <;> intro hTw <;> first | (exact Bool.noConfusion hTw) | ((try simp only [hTw, Bool.not_true, Bool.not_false, Bool.true_and, Bool.false_and, Bool.and_true, Bool.and_false, Bool.true_or, Bool.false_or, Bool.or_true, Bool.or_false]); (first | (guard_hyp hTw : true = true; clear hTw) | (guard_hyp hTw : false = false; clear hTw) | (revert hTw; intro _))))
          | ((with_reducible refine two_intro ?_ ?_) <;> intro hTw <;> first | (exact Bool.noConfusion hTw) | ((first | (guard_hyp hTw : true = true; clear hTw) | (guard_hyp hTw : false = false; clear hTw) | (revert hTw; intro _))))
          | ((with_reducible refine And.intro ?_ ?_); (focus (first | exact keyOk_pair_ | exact eqEnt_ | omega | rfl | decide | grind)))
          | (with_reducible refine aw_block ?_)
          | (with_reducible refine aw_scope ?_)
          | ((first
              | ((with_reducible refine aw_regionA T_ok ?_ ?_); (focus kernel_rfl))
              | ((with_reducible refine aw_drawnA T_ok ?_ ?_ ?_ ?_); (focus kernel_rfl); (focus kernel_rfl); (focus kernel_rfl))
              | ((with_reducible apply yieldI_in 0 0 (hL1 := hLp) (hL2 := hLa) (hL3 := hLb) (hsz := hLt.1)); (focus rfl); (focus rfl); (focus rfl); (focus kernel_rfl); (focus (dsimp only [Base.inn, Base.inr])); (focus exact (fun t ht => (hLt.2 t ht).trans (by rw [Nat.zero_add]; rfl))); (focus kernel_rfl); intro _)
              | (with_reducible refine aw_label ?_)
              | ((with_reducible refine aw_rfM ?_ ?_); (focus kernel_rfl))
              | (with_reducible refine aw_skip ?_)
              | (with_reducible refine aw_exit ?_)
              | ((with_reducible refine aw_condM ?_ ?_); (focus kernel_rfl))
              | (with_reducible refine aw_ret ?_)
            ); simp only [↓rwp.eq_def, ↓sop.eq_def, ↓slotK.eq_def, inV, shT, unT, inQ, rfQ, rfEnd, resOf, pickT, setP, ydA, ydQ, rowW, vD, fillV,  ↓gop.eq_def, ↓hop.eq_def, ↓hopH.eq_def, ↓hwp.eq_def, ↓ldV.eq_def, ↓ldK.eq_def, ↓ixK.eq_def, ↓addOff.eq_def, ↓exK.eq_def, ↓notK.eq_def, ↓pickK.eq_def, ↓iop2.eq_def, ↓binK.eq_def, ↓eqop.eq_def, icells, ↓iop.eq_def, ↓cutK.eq_def, ↓lenK.eq_def, ↓lenM.eq_def, tyInt, ↓lookK.eq_def, ↓mpK.eq_def, keyV, allI, fitK, lkM, upM, dlM, kq, ↓cvK.eq_def, ↓mmK.eq_def, ↓biK.eq_def, ↓stK.eq_def, ↓apK.eq_def, ↓apD.eq_def, ↓apS.eq_def, nxt, put, setT, setB, delB, lkT_n, lkT_c, lkB_n, lkB_c, ev, ofC, inT, ofA, ofRet, dV_n, dV_c, getD_enc, toDs_dV, List.head?_cons, List.length_map, Option.toArray_some, Option.toArray_none, Int.toNat_natCast, slOf, TyK.agg, vcells, splice, pickOps, zOf, strip, stripP, gOf, allP, rowV, toDs, toD, toA, toAs, headOps, tailOps, isT, addN, Op.operands, Call.operands, List.map_cons, List.map_nil, List.drop_zero, List.drop_succ_cons, List.take_succ_cons, List.take_zero, List.length_cons, List.length_nil, List.getElem?_cons_zero, List.getElem?_cons_succ, List.getElem?_toArray, Option.bind_some, Option.map_some, Option.map_none, List.append_nil, List.nil_append, List.cons_append, if_true, if_false, reduceIte, Nat.reduceEqDiff, Nat.reduceAdd, Nat.reduceSub, Int.reduceToNat, Nat.reduceLeDiff, Nat.reduceLT, and_false, and_self, Nat.zero_add, Nat.add_zero, reduceCtorEq, Option.getD_some, Option.getD_none, Option.isSome_some, Option.isSome_none, forall_const, true_and, and_true, true_implies, Bool.true_and, Bool.false_and, Bool.and_true, Bool.and_false, Bool.true_or, Bool.false_or, Bool.or_true, Bool.or_false, beq_self_eq_true, zipM, zcells, Value.cells, Value.oneCell', List.toList_toArray, Array.toList_append, Bool.not_not, List.cons.injEq, Int.reduceEq, eq_self, false_and, Bool.not_true, Bool.not_false, ne_eq, not_false_eq_true, imp_self, implies_true, av_bt, av_bf, av_and, av_or, av_nf, av_tt, av_n1, av_n2, av_t1, av_tp, retQ, retL, resV, RetV, RetOk, SubL, entD_len, entD_take, entD_hd, entD_ln, entD_ic, entD_d1, entD_d2, entD_d3, entD_d4, entD_d5, entD_d6, entD_d7, ty_39, ty_3, ty_22, ty_72, ty_76, ty_4, upM_ent, lkM_ent, entV, hm]; try simp (disch := omega) only [av_w, av_t1, av_tp, Int.toNat_natCast]))
        · rename_i h4
          rw [show (match some o with | some o => if o.frm ≤ (l.getD k default).frm then upA [(l.getD k default).kind, (l.getD k default).a] (l.getD k default) (mAt l day time k) else mAt l day time k | none => upA [(l.getD k default).kind, (l.getD k default).a] (l.getD k default) (mAt l day time k)) = upA [(l.getD k default).kind, (l.getD k default).a] (l.getD k default) (mAt l day time k) from if_pos (by simpa using h4)] at hs
          refine ⟨k + 1, by omega, by dsimp only; omega, wk_of [(0, some 0), (1, some 1), (2, some 2), (3, some 3), (4, some 4), (5, some 5), (6, some 6)] rfl rfl ?_ ?_⟩
          · simp only [wkT, wkB, wkB1, subV, subVs, subD, subB, lkN_n, lkN_c, lkT_n, lkT_c, lkB_n, lkB_c, if_true, if_false, reduceIte, Nat.reduceEqDiff, true_and, and_true, and_self, inT, ofA]
            (repeat' (first | exact trivial | rfl | exact rfl | refine And.intro ?_ ?_))
          · simp only [wkT, wkB, wkB1, subV, subVs, subD, subB, lkN_n, lkN_c, lkT_n, lkT_c, lkB_n, lkB_c, if_true, if_false, reduceIte, Nat.reduceEqDiff, true_and, and_true, and_self, inT, ofA]
            exact ⟨subV_ent _ default, subM_mpV (subV_ent _) hs.symm⟩
        · rename_i h4
          rw [show (match some o with | some o => if o.frm ≤ (l.getD k default).frm then upA [(l.getD k default).kind, (l.getD k default).a] (l.getD k default) (mAt l day time k) else mAt l day time k | none => upA [(l.getD k default).kind, (l.getD k default).a] (l.getD k default) (mAt l day time k)) = mAt l day time k from if_neg (by simpa using h4)] at hs
          refine ⟨k + 1, by omega, by dsimp only; omega, wk_of [(0, some 0), (1, some 1), (2, some 2), (3, some 3), (4, some 4), (5, some 5), (6, some 6)] rfl rfl ?_ ?_⟩
          · simp only [wkT, wkB, wkB1, subV, subVs, subD, subB, lkN_n, lkN_c, lkT_n, lkT_c, lkB_n, lkB_c, if_true, if_false, reduceIte, Nat.reduceEqDiff, true_and, and_true, and_self, inT, ofA]
            (repeat' (first | exact trivial | rfl | exact rfl | refine And.intro ?_ ?_))
          · simp only [wkT, wkB, wkB1, subV, subVs, subD, subB, lkN_n, lkN_c, lkT_n, lkT_c, lkB_n, lkB_c, if_true, if_false, reduceIte, Nat.reduceEqDiff, true_and, and_true, and_self, inT, ofA]
            exact ⟨subV_ent _ default, subM_mpV (subV_ent _) hs.symm⟩
    · rename_i h2 h3
      have hlt : k < l.length := by simp at h2; omega
      have hs := mAt_succ l day time k hlt
      rw [if_neg (show ¬ countsB day time (l.getD k default) = true by rw [show countsB day time (l.getD k default) = false from h3]; simp)] at hs
      refine ⟨k + 1, by omega, by dsimp only; omega, wk_of [(0, some 0), (1, some 1), (2, some 2), (3, some 3), (4, some 4), (5, some 5), (6, some 6)] rfl rfl ?_ ?_⟩
      · simp only [wkT, wkB, wkB1, subV, subVs, subD, subB, lkN_n, lkN_c, lkT_n, lkT_c, lkB_n, lkB_c, if_true, if_false, reduceIte, Nat.reduceEqDiff, true_and, and_true, and_self, inT, ofA]
        (repeat' (first | exact trivial | rfl | exact rfl | refine And.intro ?_ ?_))
      · simp only [wkT, wkB, wkB1, subV, subVs, subD, subB, lkN_n, lkN_c, lkT_n, lkT_c, lkB_n, lkB_c, if_true, if_false, reduceIte, Nat.reduceEqDiff, true_and, and_true, and_self, inT, ofA]
        exact ⟨subV_ent _ default, subM_mpV (subV_ent _) hs.symm⟩
    rename_i h2
    have hk2 : k = l.length := by simp at h2; omega
    subst hk2
    repeat' (first
      | (with_reducible refine aw_seq ?_)
      | ((with_reducible refine twoG_intro ?_ ?_) <;> intro hTw <;> first | (exact Bool.noConfusion hTw) | ((try simp only [hTw, Bool.not_true, Bool.not_false, Bool.true_and, Bool.false_and, Bool.and_true, Bool.and_false, Bool.true_or, Bool.false_or, Bool.or_true, Bool.or_false]); (first | (guard_hyp hTw : true = true; clear hTw) | (guard_hyp hTw : false = false; clear hTw) | (revert hTw; intro _))))
      | ((with_reducible refine two_intro ?_ ?_) <;> intro hTw <;> first | (exact Bool.noConfusion hTw) | ((first | (guard_hyp hTw : true = true; clear hTw) | (guard_hyp hTw : false = false; clear hTw) | (revert hTw; intro _))))
      | ((with_reducible refine And.intro ?_ ?_); (focus (first | exact keyOk_pair_ | exact eqEnt_ | omega | rfl | decide | grind)))
      | (with_reducible refine aw_block ?_)
      | (with_reducible refine aw_scope ?_)
      | ((first
          | ((with_reducible refine aw_regionA T_ok ?_ ?_); (focus kernel_rfl))
          | ((with_reducible refine aw_drawnA T_ok ?_ ?_ ?_ ?_); (focus kernel_rfl); (focus kernel_rfl); (focus kernel_rfl))
          | ((with_reducible apply callI_in T_ok Try.func49); (focus (dsimp only [Try.f49])); (focus rfl); (focus rfl); (focus kernel_rfl); (focus exact of_decide_eq_true (by kernel_rfl)); (focus kernel_rfl); (focus kernel_rfl); intro _)
          | ((with_reducible apply rfI_in Try.func59); (focus (dsimp only [Try.f59])); (focus (dsimp only [Base.inn, Base.inr])); (focus rfl); (focus rfl); (focus kernel_rfl); (focus exact of_decide_eq_true (by kernel_rfl)); (focus kernel_rfl); intro aL L hLp hLa hLb hLt)
          | (with_reducible refine aw_label ?_)
          | ((with_reducible refine aw_rfM ?_ ?_); (focus kernel_rfl))
          | (with_reducible refine aw_skip ?_)
          | (with_reducible refine aw_exit ?_)
          | ((with_reducible refine aw_condM ?_ ?_); (focus kernel_rfl))
          | (with_reducible refine aw_ret ?_)
        ); simp only [↓rwp.eq_def, ↓sop.eq_def, ↓slotK.eq_def, inV, shT, unT, inQ, rfQ, rfEnd, resOf, pickT, setP, ydA, ydQ, rowW, vD, fillV,  ↓gop.eq_def, ↓hop.eq_def, ↓hopH.eq_def, ↓hwp.eq_def, ↓ldV.eq_def, ↓ldK.eq_def, ↓ixK.eq_def, ↓addOff.eq_def, ↓exK.eq_def, ↓notK.eq_def, ↓pickK.eq_def, ↓iop2.eq_def, ↓binK.eq_def, ↓eqop.eq_def, icells, ↓iop.eq_def, ↓cutK.eq_def, ↓lenK.eq_def, ↓lenM.eq_def, tyInt, ↓lookK.eq_def, ↓mpK.eq_def, keyV, allI, fitK, lkM, upM, dlM, kq, ↓cvK.eq_def, ↓mmK.eq_def, ↓biK.eq_def, ↓stK.eq_def, ↓apK.eq_def, ↓apD.eq_def, ↓apS.eq_def, nxt, put, setT, setB, delB, lkT_n, lkT_c, lkB_n, lkB_c, ev, ofC, inT, ofA, ofRet, dV_n, dV_c, getD_enc, toDs_dV, List.head?_cons, List.length_map, Option.toArray_some, Option.toArray_none, Int.toNat_natCast, slOf, TyK.agg, vcells, splice, pickOps, zOf, strip, stripP, gOf, allP, rowV, toDs, toD, toA, toAs, headOps, tailOps, isT, addN, Op.operands, Call.operands, List.map_cons, List.map_nil, List.drop_zero, List.drop_succ_cons, List.take_succ_cons, List.take_zero, List.length_cons, List.length_nil, List.getElem?_cons_zero, List.getElem?_cons_succ, List.getElem?_toArray, Option.bind_some, Option.map_some, Option.map_none, List.append_nil, List.nil_append, List.cons_append, if_true, if_false, reduceIte, Nat.reduceEqDiff, Nat.reduceAdd, Nat.reduceSub, Int.reduceToNat, Nat.reduceLeDiff, Nat.reduceLT, and_false, and_self, Nat.zero_add, Nat.add_zero, reduceCtorEq, Option.getD_some, Option.getD_none, Option.isSome_some, Option.isSome_none, forall_const, true_and, and_true, true_implies, Bool.true_and, Bool.false_and, Bool.and_true, Bool.and_false, Bool.true_or, Bool.false_or, Bool.or_true, Bool.or_false, beq_self_eq_true, zipM, zcells, Value.cells, Value.oneCell', List.toList_toArray, Array.toList_append, Bool.not_not, List.cons.injEq, Int.reduceEq, eq_self, false_and, Bool.not_true, Bool.not_false, ne_eq, not_false_eq_true, imp_self, implies_true, av_bt, av_bf, av_and, av_or, av_nf, av_tt, av_n1, av_n2, av_t1, av_tp, retQ, retL, resV, RetV, RetOk, SubL, entD_len, entD_take, entD_hd, entD_ln, entD_ic, entD_d1, entD_d2, entD_d3, entD_d4, entD_d5, entD_d6, entD_d7, ty_39, ty_3, ty_22, ty_72, ty_76, ty_4, upM_ent, lkM_ent, entV]; try simp (disch := omega) only [av_w, av_t1, av_tp, Int.toNat_natCast]))
    refine aw_loopI (fun k : Nat => ⟨[(0, .yl 6), (1, .ptr 3 0), (2, .ptr 4 0), (3, .ptr 5 0), (42, vEs l), (43, vI day), (44, vI time), (48, .ptr 0 0), (49, vI 0), (51, .ptr 2 0), (7, vEs l), (8, vI l.length), (9, vI k)],
      [(6, .loop L .ready none), (5, .cells 3 [vI time]), (4, .cells 3 [vI day]), (3, .cells 22 [vEs l]), (2, .cells 72 [.mp 1]), (1, .map (.p 2) 76 (.agg (Array.replicate 8 (.int .i64 0))) (entV default) (mpV entV (mAt l day time l.length))), (0, .cells 22 [.ow 7 8 (entD default) ((srcAt l day time k).map entD)]), (7, .tok 39 8 (srcAt l day time k).length)], 8⟩)
      (fun k => k ≤ l.length) (fun k => l.length - k) 0 (Nat.zero_le _) (wk_of [(0, some 0), (1, some 1), (2, some 2), (3, some 7), (4, some 8), (5, some 9), (6, some 10), (7, none)] rfl rfl ?_ ?_) ?_
    · simp only [wkT, wkB, wkB1, subV, subVs, subD, subB, lkN_n, lkN_c, lkT_n, lkT_c, lkB_n, lkB_c, if_true, if_false, reduceIte, Nat.reduceEqDiff, true_and, and_true, and_self, inT, ofA]
      rfl
    · simp only [wkT, wkB, wkB1, subV, subVs, subD, subB, lkN_n, lkN_c, lkT_n, lkT_c, lkB_n, lkB_c, if_true, if_false, reduceIte, Nat.reduceEqDiff, true_and, and_true, and_self, inT, ofA]
      exact ⟨⟨subV_ent _ default, subM_mpV (subV_ent _) rfl⟩, by simp [srcAt, cAt]⟩
    intro k hk'
    have hsl := srcAt_len l day time k
    repeat' (first
      | (with_reducible refine aw_seq ?_)
      | ((with_reducible refine twoG_intro ?_ ?_) <;> intro hTw <;> first | (exact Bool.noConfusion hTw) | ((try simp only [hTw, Bool.not_true, Bool.not_false, Bool.true_and, Bool.false_and, Bool.and_true, Bool.and_false, Bool.true_or, Bool.false_or, Bool.or_true, Bool.or_false]); (first | (guard_hyp hTw : true = true; clear hTw) | (guard_hyp hTw : false = false; clear hTw) | (revert hTw; intro _))))
      | ((with_reducible refine two_intro ?_ ?_) <;> intro hTw <;> first | (exact Bool.noConfusion hTw) | ((first | (guard_hyp hTw : true = true; clear hTw) | (guard_hyp hTw : false = false; clear hTw) | (revert hTw; intro _))))
      | ((with_reducible refine And.intro ?_ ?_); (focus (first | exact keyOk_pair_ | exact eqEnt_ | omega | rfl | decide | grind)))
      | (with_reducible refine aw_block ?_)
      | (with_reducible refine aw_scope ?_)
      | ((first
          | ((with_reducible refine aw_regionA T_ok ?_ ?_); (focus kernel_rfl))
          | ((with_reducible refine aw_drawnA T_ok ?_ ?_ ?_ ?_); (focus kernel_rfl); (focus kernel_rfl); (focus kernel_rfl))
          | (with_reducible refine aw_label ?_)
          | ((with_reducible refine aw_rfM ?_ ?_); (focus kernel_rfl))
          | (with_reducible refine aw_skip ?_)
          | (with_reducible refine aw_exit ?_)
          | ((with_reducible refine aw_condM ?_ ?_); (focus kernel_rfl))
          | (with_reducible refine aw_ret ?_)
        ); simp only [↓rwp.eq_def, ↓sop.eq_def, ↓slotK.eq_def, inV, shT, unT, inQ, rfQ, rfEnd, resOf, pickT, setP, ydA, ydQ, rowW, vD, fillV,  ↓gop.eq_def, ↓hop.eq_def, ↓hopH.eq_def, ↓hwp.eq_def, ↓ldV.eq_def, ↓ldK.eq_def, ↓ixK.eq_def, ↓addOff.eq_def, ↓exK.eq_def, ↓notK.eq_def, ↓pickK.eq_def, ↓iop2.eq_def, ↓binK.eq_def, ↓eqop.eq_def, icells, ↓iop.eq_def, ↓cutK.eq_def, ↓lenK.eq_def, ↓lenM.eq_def, tyInt, ↓lookK.eq_def, ↓mpK.eq_def, keyV, allI, fitK, lkM, upM, dlM, kq, ↓cvK.eq_def, ↓mmK.eq_def, ↓biK.eq_def, ↓stK.eq_def, ↓apK.eq_def, ↓apD.eq_def, ↓apS.eq_def, nxt, put, setT, setB, delB, lkT_n, lkT_c, lkB_n, lkB_c, ev, ofC, inT, ofA, ofRet, dV_n, dV_c, getD_enc, toDs_dV, List.head?_cons, List.length_map, Option.toArray_some, Option.toArray_none, Int.toNat_natCast, slOf, TyK.agg, vcells, splice, pickOps, zOf, strip, stripP, gOf, allP, rowV, toDs, toD, toA, toAs, headOps, tailOps, isT, addN, Op.operands, Call.operands, List.map_cons, List.map_nil, List.drop_zero, List.drop_succ_cons, List.take_succ_cons, List.take_zero, List.length_cons, List.length_nil, List.getElem?_cons_zero, List.getElem?_cons_succ, List.getElem?_toArray, Option.bind_some, Option.map_some, Option.map_none, List.append_nil, List.nil_append, List.cons_append, if_true, if_false, reduceIte, Nat.reduceEqDiff, Nat.reduceAdd, Nat.reduceSub, Int.reduceToNat, Nat.reduceLeDiff, Nat.reduceLT, and_false, and_self, Nat.zero_add, Nat.add_zero, reduceCtorEq, Option.getD_some, Option.getD_none, Option.isSome_some, Option.isSome_none, forall_const, true_and, and_true, true_implies, Bool.true_and, Bool.false_and, Bool.and_true, Bool.and_false, Bool.true_or, Bool.false_or, Bool.or_true, Bool.or_false, beq_self_eq_true, zipM, zcells, Value.cells, Value.oneCell', List.toList_toArray, Array.toList_append, Bool.not_not, List.cons.injEq, Int.reduceEq, eq_self, false_and, Bool.not_true, Bool.not_false, ne_eq, not_false_eq_true, imp_self, implies_true, av_bt, av_bf, av_and, av_or, av_nf, av_tt, av_n1, av_n2, av_t1, av_tp, retQ, retL, resV, RetV, RetOk, SubL, entD_len, entD_take, entD_hd, entD_ln, entD_ic, entD_d1, entD_d2, entD_d3, entD_d4, entD_d5, entD_d6, entD_d7, ty_39, ty_3, ty_22, ty_72, ty_76, ty_4, upM_ent, lkM_ent, entV]; try simp (disch := omega) only [av_w, av_t1, av_tp, Int.toNat_natCast]))
    · rename_i h2 h3
      have hlt : k < l.length := by simp at h2; omega
      have hv : validE (l.getD k default) = true := hc3 _ (by simp [List.getD, hlt])
      have hb : ((1 ≤ (l.getD k default).kind ∧ (l.getD k default).kind ≤ 4) ∧ 0 ≤ (l.getD k default).a ∧ (l.getD k default).a ≤ 1048576) := by
        simp only [validE, fitsB, idB] at hv
        grind
      have hs := srcAt_succ l day time k hlt
      rw [show countsB day time (l.getD k default) = true from h3, Bool.true_and] at hs
      cases hm : lkA [(l.getD k default).kind, (l.getD k default).a] (mAt l day time l.length) with
      | none =>
        rw [hm] at hs
        repeat' (first
          | (with_reducible refine aw_seq ?_)
          | ((with_reducible refine twoG_intro ?_ ?_) <;> intro hTw <;> first | (exact Bool.noConfusion hTw) | ((try simp only [hTw, Bool.not_true, Bool.not_false, Bool.true_and, Bool.false_and, Bool.and_true, Bool.and_false, Bool.true_or, Bool.false_or, Bool.or_true, Bool.or_false]); (first | (guard_hyp hTw : true = true; clear hTw) | (guard_hyp hTw : false = false; clear hTw) | (revert hTw; intro _))))
          | ((with_reducible refine two_intro ?_ ?_) <;> intro hTw <;> first | (exact Bool.noConfusion hTw) | ((first | (guard_hyp hTw : true = true; clear hTw) | (guard_hyp hTw : false = false; clear hTw) | (revert hTw; intro _))))
          | ((with_reducible refine And.intro ?_ ?_); (focus (first | exact keyOk_pair_ | exact eqEnt_ | omega | rfl | decide | grind)))
          | (with_reducible refine aw_block ?_)
          | (with_reducible refine aw_scope ?_)
          | ((first
              | ((with_reducible refine aw_regionA T_ok ?_ ?_); (focus kernel_rfl))
              | ((with_reducible refine aw_drawnA T_ok ?_ ?_ ?_ ?_); (focus kernel_rfl); (focus kernel_rfl); (focus kernel_rfl))
              | ((with_reducible apply yieldI_in 0 0 (hL1 := hLp) (hL2 := hLa) (hL3 := hLb) (hsz := hLt.1)); (focus rfl); (focus rfl); (focus rfl); (focus kernel_rfl); (focus (dsimp only [Base.inn, Base.inr])); (focus exact (fun t ht => (hLt.2 t ht).trans (by rw [Nat.zero_add]; rfl))); (focus kernel_rfl); intro _)
              | (with_reducible refine aw_label ?_)
              | ((with_reducible refine aw_rfM ?_ ?_); (focus kernel_rfl))
              | (with_reducible refine aw_skip ?_)
              | (with_reducible refine aw_exit ?_)
              | ((with_reducible refine aw_condM ?_ ?_); (focus kernel_rfl))
              | (with_reducible refine aw_ret ?_)
            ); simp only [↓rwp.eq_def, ↓sop.eq_def, ↓slotK.eq_def, inV, shT, unT, inQ, rfQ, rfEnd, resOf, pickT, setP, ydA, ydQ, rowW, vD, fillV,  ↓gop.eq_def, ↓hop.eq_def, ↓hopH.eq_def, ↓hwp.eq_def, ↓ldV.eq_def, ↓ldK.eq_def, ↓ixK.eq_def, ↓addOff.eq_def, ↓exK.eq_def, ↓notK.eq_def, ↓pickK.eq_def, ↓iop2.eq_def, ↓binK.eq_def, ↓eqop.eq_def, icells, ↓iop.eq_def, ↓cutK.eq_def, ↓lenK.eq_def, ↓lenM.eq_def, tyInt, ↓lookK.eq_def, ↓mpK.eq_def, keyV, allI, fitK, lkM, upM, dlM, kq, ↓cvK.eq_def, ↓mmK.eq_def, ↓biK.eq_def, ↓stK.eq_def, ↓apK.eq_def, ↓apD.eq_def, ↓apS.eq_def, nxt, put, setT, setB, delB, lkT_n, lkT_c, lkB_n, lkB_c, ev, ofC, inT, ofA, ofRet, dV_n, dV_c, getD_enc, toDs_dV, List.head?_cons, List.length_map, Option.toArray_some, Option.toArray_none, Int.toNat_natCast, slOf, TyK.agg, vcells, splice, pickOps, zOf, strip, stripP, gOf, allP, rowV, toDs, toD, toA, toAs, headOps, tailOps, isT, addN, Op.operands, Call.operands, List.map_cons, List.map_nil, List.drop_zero, List.drop_succ_cons, List.take_succ_cons, List.take_zero, List.length_cons, List.length_nil, List.getElem?_cons_zero, List.getElem?_cons_succ, List.getElem?_toArray, Option.bind_some, Option.map_some, Option.map_none, List.append_nil, List.nil_append, List.cons_append, if_true, if_false, reduceIte, Nat.reduceEqDiff, Nat.reduceAdd, Nat.reduceSub, Int.reduceToNat, Nat.reduceLeDiff, Nat.reduceLT, and_false, and_self, Nat.zero_add, Nat.add_zero, reduceCtorEq, Option.getD_some, Option.getD_none, Option.isSome_some, Option.isSome_none, forall_const, true_and, and_true, true_implies, Bool.true_and, Bool.false_and, Bool.and_true, Bool.and_false, Bool.true_or, Bool.false_or, Bool.or_true, Bool.or_false, beq_self_eq_true, zipM, zcells, Value.cells, Value.oneCell', List.toList_toArray, Array.toList_append, Bool.not_not, List.cons.injEq, Int.reduceEq, eq_self, false_and, Bool.not_true, Bool.not_false, ne_eq, not_false_eq_true, imp_self, implies_true, av_bt, av_bf, av_and, av_or, av_nf, av_tt, av_n1, av_n2, av_t1, av_tp, retQ, retL, resV, RetV, RetOk, SubL, entD_len, entD_take, entD_hd, entD_ln, entD_ic, entD_d1, entD_d2, entD_d3, entD_d4, entD_d5, entD_d6, entD_d7, ty_39, ty_3, ty_22, ty_72, ty_76, ty_4, upM_ent, lkM_ent, entV, hm, entEq]; try simp (disch := omega) only [av_w, av_t1, av_tp, Int.toNat_natCast]))
        · rename_i h4
          have hc4 : (!oneB (l.getD k default) || (none : Option Ent) == some (l.getD k default)) = true := by
            have h0 : ¬ default = l.getD k default := fun e => by have : (0 : Int) = (l.getD k default).kind := congrArg Ent.kind e; omega
            rw [show decide ((default : Ent) = l.getD k default) = false from decide_eq_false h0] at h4
            simpa [oneB] using h4
          rw [if_pos hc4] at hs
          refine ⟨k + 1, by omega, by dsimp only; omega, wk_of [(0, some 0), (1, some 1), (2, some 2), (3, some 3), (4, some 4), (5, some 5), (6, some 6), (7, some 24)] rfl rfl ?_ ?_⟩
          · simp only [wkT, wkB, wkB1, subV, subVs, subD, subB, lkN_n, lkN_c, lkT_n, lkT_c, lkB_n, lkB_c, if_true, if_false, reduceIte, Nat.reduceEqDiff, true_and, and_true, and_self, inT, ofA]
            (repeat' (first | exact trivial | rfl | exact rfl | refine And.intro ?_ ?_))
          · simp only [wkT, wkB, wkB1, subV, subVs, subD, subB, lkN_n, lkN_c, lkT_n, lkT_c, lkB_n, lkB_c, if_true, if_false, reduceIte, Nat.reduceEqDiff, true_and, and_true, and_self, inT, ofA]
            rw [hs]
            first | exact ⟨⟨subV_ent _ default, subM_mpV (subV_ent _) rfl⟩, by simp⟩ | exact subM_mpV (subV_ent _) rfl | exact ⟨subV_ent _ default, subM_mpV (subV_ent _) rfl⟩
        · rename_i h4
          have hc4 : ¬ (!oneB (l.getD k default) || (none : Option Ent) == some (l.getD k default)) = true := by
            have h0 : ¬ default = l.getD k default := fun e => by have : (0 : Int) = (l.getD k default).kind := congrArg Ent.kind e; omega
            rw [show decide ((default : Ent) = l.getD k default) = false from decide_eq_false h0] at h4
            simpa [oneB] using h4
          rw [if_neg hc4, List.append_nil] at hs
          refine ⟨k + 1, by omega, by dsimp only; omega, wk_of [(0, some 0), (1, some 1), (2, some 2), (3, some 3), (4, some 4), (5, some 5), (6, some 6), (7, some 7)] rfl rfl ?_ ?_⟩
          · simp only [wkT, wkB, wkB1, subV, subVs, subD, subB, lkN_n, lkN_c, lkT_n, lkT_c, lkB_n, lkB_c, if_true, if_false, reduceIte, Nat.reduceEqDiff, true_and, and_true, and_self, inT, ofA]
            (repeat' (first | exact trivial | rfl | exact rfl | refine And.intro ?_ ?_))
          · simp only [wkT, wkB, wkB1, subV, subVs, subD, subB, lkN_n, lkN_c, lkT_n, lkT_c, lkB_n, lkB_c, if_true, if_false, reduceIte, Nat.reduceEqDiff, true_and, and_true, and_self, inT, ofA]
            rw [hs]
            first | exact ⟨⟨subV_ent _ default, subM_mpV (subV_ent _) rfl⟩, by simp⟩ | exact subM_mpV (subV_ent _) rfl | exact ⟨subV_ent _ default, subM_mpV (subV_ent _) rfl⟩
      | some o =>
        rw [hm] at hs
        repeat' (first
          | (with_reducible refine aw_seq ?_)
          | ((with_reducible refine twoG_intro ?_ ?_) <;> intro hTw <;> first | (exact Bool.noConfusion hTw) | ((try simp only [hTw, Bool.not_true, Bool.not_false, Bool.true_and, Bool.false_and, Bool.and_true, Bool.and_false, Bool.true_or, Bool.false_or, Bool.or_true, Bool.or_false]); (first | (guard_hyp hTw : true = true; clear hTw) | (guard_hyp hTw : false = false; clear hTw) | (revert hTw; intro _))))
          | ((with_reducible refine two_intro ?_ ?_) <;> intro hTw <;> first | (exact Bool.noConfusion hTw) | ((first | (guard_hyp hTw : true = true; clear hTw) | (guard_hyp hTw : false = false; clear hTw) | (revert hTw; intro _))))
          | ((with_reducible refine And.intro ?_ ?_); (focus (first | exact keyOk_pair_ | exact eqEnt_ | omega | rfl | decide | grind)))
          | (with_reducible refine aw_block ?_)
          | (with_reducible refine aw_scope ?_)
          | ((first
              | ((with_reducible refine aw_regionA T_ok ?_ ?_); (focus kernel_rfl))
              | ((with_reducible refine aw_drawnA T_ok ?_ ?_ ?_ ?_); (focus kernel_rfl); (focus kernel_rfl); (focus kernel_rfl))
              | ((with_reducible apply yieldI_in 0 0 (hL1 := hLp) (hL2 := hLa) (hL3 := hLb) (hsz := hLt.1)); (focus rfl); (focus rfl); (focus rfl); (focus kernel_rfl); (focus (dsimp only [Base.inn, Base.inr])); (focus exact (fun t ht => (hLt.2 t ht).trans (by rw [Nat.zero_add]; rfl))); (focus kernel_rfl); intro _)
              | (with_reducible refine aw_label ?_)
              | ((with_reducible refine aw_rfM ?_ ?_); (focus kernel_rfl))
              | (with_reducible refine aw_skip ?_)
              | (with_reducible refine aw_exit ?_)
              | ((with_reducible refine aw_condM ?_ ?_); (focus kernel_rfl))
              | (with_reducible refine aw_ret ?_)
            ); simp only [↓rwp.eq_def, ↓sop.eq_def, ↓slotK.eq_def, inV, shT, unT, inQ, rfQ, rfEnd, resOf, pickT, setP, ydA, ydQ, rowW, vD, fillV,  ↓gop.eq_def, ↓hop.eq_def, ↓hopH.eq_def, ↓hwp.eq_def, ↓ldV.eq_def, ↓ldK.eq_def, ↓ixK.eq_def, ↓addOff.eq_def, ↓exK.eq_def, ↓notK.eq_def, ↓pickK.eq_def, ↓iop2.eq_def, ↓binK.eq_def, ↓eqop.eq_def, icells, ↓iop.eq_def, ↓cutK.eq_def, ↓lenK.eq_def, ↓lenM.eq_def, tyInt, ↓lookK.eq_def, ↓mpK.eq_def, keyV, allI, fitK, lkM, upM, dlM, kq, ↓cvK.eq_def, ↓mmK.eq_def, ↓biK.eq_def, ↓stK.eq_def, ↓apK.eq_def, ↓apD.eq_def, ↓apS.eq_def, nxt, put, setT, setB, delB, lkT_n, lkT_c, lkB_n, lkB_c, ev, ofC, inT, ofA, ofRet, dV_n, dV_c, getD_enc, toDs_dV, List.head?_cons, List.length_map, Option.toArray_some, Option.toArray_none, Int.toNat_natCast, slOf, TyK.agg, vcells, splice, pickOps, zOf, strip, stripP, gOf, allP, rowV, toDs, toD, toA, toAs, headOps, tailOps, isT, addN, Op.operands, Call.operands, List.map_cons, List.map_nil, List.drop_zero, List.drop_succ_cons, List.take_succ_cons, List.take_zero, List.length_cons, List.length_nil, List.getElem?_cons_zero, List.getElem?_cons_succ, List.getElem?_toArray, Option.bind_some, Option.map_some, Option.map_none, List.append_nil, List.nil_append, List.cons_append, if_true, if_false, reduceIte, Nat.reduceEqDiff, Nat.reduceAdd, Nat.reduceSub, Int.reduceToNat, Nat.reduceLeDiff, Nat.reduceLT, and_false, and_self, Nat.zero_add, Nat.add_zero, reduceCtorEq, Option.getD_some, Option.getD_none, Option.isSome_some, Option.isSome_none, forall_const, true_and, and_true, true_implies, Bool.true_and, Bool.false_and, Bool.and_true, Bool.and_false, Bool.true_or, Bool.false_or, Bool.or_true, Bool.or_false, beq_self_eq_true, zipM, zcells, Value.cells, Value.oneCell', List.toList_toArray, Array.toList_append, Bool.not_not, List.cons.injEq, Int.reduceEq, eq_self, false_and, Bool.not_true, Bool.not_false, ne_eq, not_false_eq_true, imp_self, implies_true, av_bt, av_bf, av_and, av_or, av_nf, av_tt, av_n1, av_n2, av_t1, av_tp, retQ, retL, resV, RetV, RetOk, SubL, entD_len, entD_take, entD_hd, entD_ln, entD_ic, entD_d1, entD_d2, entD_d3, entD_d4, entD_d5, entD_d6, entD_d7, ty_39, ty_3, ty_22, ty_72, ty_76, ty_4, upM_ent, lkM_ent, entV, hm, entEq]; try simp (disch := omega) only [av_w, av_t1, av_tp, Int.toNat_natCast]))
        · rename_i h4
          rw [if_pos (by simpa [oneB] using h4)] at hs
          refine ⟨k + 1, by omega, by dsimp only; omega, wk_of [(0, some 0), (1, some 1), (2, some 2), (3, some 3), (4, some 4), (5, some 5), (6, some 6), (7, some 24)] rfl rfl ?_ ?_⟩
          · simp only [wkT, wkB, wkB1, subV, subVs, subD, subB, lkN_n, lkN_c, lkT_n, lkT_c, lkB_n, lkB_c, if_true, if_false, reduceIte, Nat.reduceEqDiff, true_and, and_true, and_self, inT, ofA]
            (repeat' (first | exact trivial | rfl | exact rfl | refine And.intro ?_ ?_))
          · simp only [wkT, wkB, wkB1, subV, subVs, subD, subB, lkN_n, lkN_c, lkT_n, lkT_c, lkB_n, lkB_c, if_true, if_false, reduceIte, Nat.reduceEqDiff, true_and, and_true, and_self, inT, ofA]
            rw [hs]
            first | exact ⟨⟨subV_ent _ default, subM_mpV (subV_ent _) rfl⟩, by simp⟩ | exact subM_mpV (subV_ent _) rfl | exact ⟨subV_ent _ default, subM_mpV (subV_ent _) rfl⟩
        · rename_i h4
          rw [if_neg (by simpa [oneB] using h4), List.append_nil] at hs
          refine ⟨k + 1, by omega, by dsimp only; omega, wk_of [(0, some 0), (1, some 1), (2, some 2), (3, some 3), (4, some 4), (5, some 5), (6, some 6), (7, some 7)] rfl rfl ?_ ?_⟩
          · simp only [wkT, wkB, wkB1, subV, subVs, subD, subB, lkN_n, lkN_c, lkT_n, lkT_c, lkB_n, lkB_c, if_true, if_false, reduceIte, Nat.reduceEqDiff, true_and, and_true, and_self, inT, ofA]
            (repeat' (first | exact trivial | rfl | exact rfl | refine And.intro ?_ ?_))
          · simp only [wkT, wkB, wkB1, subV, subVs, subD, subB, lkN_n, lkN_c, lkT_n, lkT_c, lkB_n, lkB_c, if_true, if_false, reduceIte, Nat.reduceEqDiff, true_and, and_true, and_self, inT, ofA]
            rw [hs]
            first | exact ⟨⟨subV_ent _ default, subM_mpV (subV_ent _) rfl⟩, by simp⟩ | exact subM_mpV (subV_ent _) rfl | exact ⟨subV_ent _ default, subM_mpV (subV_ent _) rfl⟩
    · rename_i h2 h3
      have hlt : k < l.length := by simp at h2; omega
      have hs := srcAt_succ l day time k hlt
      rw [show countsB day time (l.getD k default) = false from h3, Bool.false_and, if_neg (by simp), List.append_nil] at hs
      refine ⟨k + 1, by omega, by dsimp only; omega, wk_of [(0, some 0), (1, some 1), (2, some 2), (3, some 3), (4, some 4), (5, some 5), (6, some 6), (7, some 7)] rfl rfl ?_ ?_⟩
      · simp only [wkT, wkB, wkB1, subV, subVs, subD, subB, lkN_n, lkN_c, lkT_n, lkT_c, lkB_n, lkB_c, if_true, if_false, reduceIte, Nat.reduceEqDiff, true_and, and_true, and_self, inT, ofA]
        (repeat' (first | exact trivial | rfl | exact rfl | refine And.intro ?_ ?_))
      · simp only [wkT, wkB, wkB1, subV, subVs, subD, subB, lkN_n, lkN_c, lkT_n, lkT_c, lkB_n, lkB_c, if_true, if_false, reduceIte, Nat.reduceEqDiff, true_and, and_true, and_self, inT, ofA]
        rw [hs]
        first | exact ⟨⟨subV_ent _ default, subM_mpV (subV_ent _) rfl⟩, by simp⟩ | exact subM_mpV (subV_ent _) rfl | exact ⟨subV_ent _ default, subM_mpV (subV_ent _) rfl⟩ | exact ⟨⟨subV_ent _ default, subM_mpV (subV_ent _) rfl⟩, rfl⟩
    · rename_i h2
      have hk2 : k = l.length := by simp at h2; omega
      subst hk2
      rw [standE, he, if_pos rfl]
      exact ⟨Sub.sl (by rw [srcAt_all, stand_eq day time l hc2]), Sub.refl _⟩
  · rename_i h
    have h0 : checkL l ≠ 0 := by simpa using h
    have he : errS l day time = checkL l := by simp [errS, h0]
    rw [standE, he, if_neg h0]
    exact ⟨Sub.nil _ _, Sub.refl _⟩
  · rename_i h h2
    have h0 : checkL l = 0 := by simpa using h
    have he : errS l day time = 1 := by simp [errS, h0] at h2 ⊢; grind
    rw [standE, he, if_neg (by decide)]
    exact ⟨Sub.nil _ _, Sub.refl _⟩
end Go.Proofs.Ytfmefdeldgmhpaa

namespace Go.Proofs.Ytfmefdeldgmhpaa
set_option linter.unusedVariables false
set_option linter.unusedSimpArgs false
open Go.RowKit
section
variable {F : Fence} {n : Nat} {P : Program} {Q : Exit → Act → World → Prop} {a : Act} {w : World}
theorem stepR_scope {b : Frame} {k : List Item} {cs : List Frame} {c : Code} : step P (lone (b.atR a (.code (.scope c) :: k)) cs w) = .next (lone (b.atR a (.code c :: .inScope c :: k)) cs w) :=
  step_lone_go (by simp [stepG, stepG.exec, Frame.atR])
theorem stepR_inScope {b : Frame} {k : List Item} {cs : List Frame} {c : Code} : step P (lone (b.atR a (.inScope c :: k)) cs w) = .next (lone (b.atR a k) cs w) :=
  step_lone_go (by simp [stepG, stepG.exec, Frame.atR])
theorem wpIn_scope {c : Code} (h : c.wpIn F n P (Exit.noGoto Q) a w) : (Code.scope c).wpIn F n P Q a w := by
  intro b k cs hro hb hr
  have h0 : (lone (b.atR a (.code (.scope c) :: k)) cs w).fenced P F := fenced_calm hb hr rfl
  obtain ⟨e, a₁, w₁, hq, harr⟩ := h b (.inScope c :: k) cs hro hb hr
  cases e with
  | normal => exact ⟨.normal, a₁, w₁, hq, .head h0 stepR_scope (StepsIn.trans harr (.one (fenced_calm hb hr rfl) stepR_inScope))⟩
  | exit id =>
    have hx : exitTo id (.inScope c :: k) = exitTo id k := by simp [exitTo]
    exact ⟨.exit id, a₁, w₁, hq, fun k' hk => .head h0 stepR_scope (harr.1 k' (by rw [hx]; exact hk)),
      fun hr' hk => let ⟨k₁, h1, h2⟩ := harr.2 hr' (by rw [hx]; exact hk); ⟨k₁, h1, .head h0 stepR_scope h2⟩⟩
  | goto l => exact hq.elim
  | ret => exact ⟨_, a₁, w₁, hq, .of_steps (.one h0 stepR_scope) harr⟩
  | panic ch => exact ⟨_, a₁, w₁, hq, .of_steps (.one h0 stepR_scope) harr⟩
  | outgrown => exact ⟨_, a₁, w₁, hq, .of_steps (.one h0 stepR_scope) harr⟩
end
section
variable {P : Program} {B : Base} {Q : AQ} {s : St}
theorem aw_scope {c : Code} (h : AW P B c (fun e s' => match e with | .goto _ => False | e => Q e s') ⟨⟩ s) : AW P B (.scope c) Q ⟨⟩ s := fun E a hG => by
  refine wpIn_scope (Code.wpIn_mono ?_ (h E a hG))
  rintro e a' w' ⟨E', s', rfl, hG', hq⟩
  cases e with
  | goto l => exact hq.elim
  | _ => exact ⟨E', s', rfl, hG', hq⟩
theorem aw_label {l : Nat} (h : Q .normal s) : AW P B (.label l) Q ⟨⟩ s := fun E a hG => wpIn_label ⟨E, s, rfl, hG, h⟩
end
end Go.Proofs.Ytfmefdeldgmhpaa

namespace Go.Proofs.Ytfmefdeldgmhpaa
set_option linter.unusedVariables false
set_option linter.unusedSimpArgs false
open Go.RowKit
/-- such a region with a write (index iw) among the heads: it waits for less than the tail, and no other head reads what it writes -/
def drawOkS (l : List Oper) (hd tail : List Nat) (iw : Nat) : Bool :=
  sinkT .any l.toArray (fun i => hd.contains i) && tail.all (fun t => !hd.contains t) && (List.range l.length).all (fun i => hd.contains i || tail.contains i) && hd.all (fun i => decide (i < l.length)) && decide hd.Nodup &&
  (List.range l.length).all (fun i => match l[i]? with | some o => o.after.toList.all fun e => !Region.binds .any e || decide (e.on < i) | none => true) && incr (pickOps l (hd.filter (fun i => i != iw))) &&
  (pickOps l (hd.filter (fun i => i != iw))).all (fun p => (p.2.looksAt l.toArray).all fun t => (pickOps l (hd.filter (fun i => i != iw))).all fun q => q.2.dst != some t || (if q.1 < p.1 then reachB .any l.toArray l.length p.1 q.1 else decide (p.1 < q.1) && reachB .any l.toArray l.length q.1 p.1)) &&
  seqT .any l.toArray tail (canonH l.length hd) && decide (hd.length + tail.length = l.length) && hd.contains iw &&
  (match l[iw]? with
    | some o => o.dst == none && o.guard == none && (o.looksAt l.toArray).all fun t => (pickOps l (hd.filter (fun i => i != iw))).all fun q => q.2.dst != some t || reachB .any l.toArray l.length iw q.1
    | none => false)
section
variable {P : Program} {B : Base} {T : Tab}
theorem wpAny_headsS {l : List Oper} {hd tail : List Nat} {iw : Nat} {Q : Exit → Act → World → Prop} {tm0 tmF : List (Nat × V)} {st00 st0 st1 nbF : List (Nat × Blk)} {nx : Nat} (hok : drawOkS l hd tail iw = true) (hrun : HRun P B l.toArray st00 nx tmF nbF (pickOps l (hd.filter (fun i => i != iw))) tm0 []) (hN : (l.all (opOk B.N)) = true)
    (hst0 : ∀ n, nx ≤ n → lkB st0 n = none) (hst1 : ∀ n, nx ≤ n → lkB st1 n = none) (hs0 : ∀ n b, lkB st00 n = some b → lkB st0 n = some b) (hs1 : ∀ n b, lkB st00 n = some b → lkB st1 n = some b)
    (hwr : ∀ ow, l[iw]? = some ow → ∀ (tm : Nat → V) (σ : Nat → Option Blk) (fr : Nat → Prop) (E : Env) (a : Act), GamS P B σ fr E → GamT B tm E a → (∀ n, n < nx → σ n = lkB st0 n) → (∀ t ∈ ow.looksAt l.toArray, tm t = lkT tmF t) →
      Upon P (fun u w' => ∃ E', E'.w = w' ∧ GamS P B (fun n => if n < nx then lkB st1 n else σ n) fr E' ∧ Ext E E' ∧ E'.dp = E.dp) ((execOp a.eval ow).run P E.w))
    (hQ : ∀ E a, Gam P B ⟨tmF, nbF ++ st1, nx + l.length⟩ E a → wpListIn (fen B.r) 0 P l.toArray Q ((pickOps l tail).map (·.2)) a E.w) :
    ∀ (F : Nat) (listed : Array Bool) (E : Env) (a : Act), GInv .any l.toArray listed → (∀ t ∈ tail, listed.getD t false = false) → hd.countP (fun i => !listed.getD i false) = F →
      GamS P B (fun n => if nx ≤ n then (if listed.getD (n - nx) false = true then lkB nbF n else none) else if listed.getD iw false = true then lkB st1 n else lkB st0 n) (fun n => nx ≤ n ∧ (listed.getD (n - nx) false = true → lkB nbF n = none)) E →
      GamT B (fun t => if ((pickOps l (hd.filter (fun i => i != iw))).any fun p => p.2.dst == some t && listed.getD p.1 false) = true then lkT tmF t else lkT tm0 t) E a → wpAnyIn (fen B.r) 0 P .any l.toArray Q (F + tail.length) listed a E.w := by
  simp only [drawOkS, Bool.and_eq_true] at hok
  obtain ⟨⟨⟨⟨⟨⟨⟨⟨⟨⟨⟨hsink, htl⟩, hpart⟩, hlt⟩, hnd⟩, hedge⟩, hincr⟩, hdep⟩, hseq⟩, _⟩, hiwh⟩, hwok⟩ := hok
  have hiwh' : iw ∈ hd := by simpa using hiwh
  have hmN : ∀ {j : Nat}, j ∈ hd.filter (fun i => i != iw) ↔ j ∈ hd ∧ j ≠ iw := fun {j} => by simp [List.mem_filter]
  obtain ⟨f1, f2, f3⟩ := hrun_facts _ _ _ hincr hrun
  have hnd' : hd.Nodup := by simpa using hnd
  have htl' : ∀ t ∈ tail, hd.contains t = false := fun t ht => by have := List.all_eq_true.1 htl t ht; simpa using this
  intro F
  induction F with
  | zero =>
    intro listed E a inv hT hcnt hS hGT
    have hall : ∀ i ∈ hd, listed.getD i false = true := fun i hi => by
      have := List.countP_eq_zero.1 hcnt i hi
      simpa using this
    have hsz : listed.size = l.length := by rw [inv.size]; simp
    have hcan : listed = canonH l.length hd := by
      refine Array.ext_getElem? fun i => ?_
      have hcs := (foldl_canon hd (Array.replicate l.length false) i)
      have hcsz : (canonH l.length hd).size = l.length := by unfold canonH; rw [hcs.1]; simp
      by_cases hi : i < l.length
      · have e1 : listed[i]? = some (listed.getD i false) := by simp [Array.getD_eq_getD_getElem?, hsz, hi]
        have e2 : (canonH l.length hd)[i]? = some ((canonH l.length hd).getD i false) := by simp [Array.getD_eq_getD_getElem?, hcsz, hi]
        rw [e1, e2]
        congr 1
        unfold canonH
        rw [hcs.2]
        rw [getD_replicate_false]
        simp only [Array.size_replicate, Bool.false_or]
        by_cases hh : hd.contains i = true
        · rw [hh, hall i (by simpa using hh)]; simp [hi]
        · have := List.all_eq_true.1 hpart i (List.mem_range.2 hi)
          simp only [Bool.or_eq_true] at this
          rcases this with h | h
          · exact (hh h).elim
          · rw [hT i (by simpa using h)]; simp only [Bool.not_eq_true] at hh; rw [hh]; rfl
      · rw [Array.getElem?_eq_none (by omega), Array.getElem?_eq_none (by omega)]
    rw [Nat.zero_add]
    refine wpAnyIn_of_seqT tail listed a E.w (by rw [hcan]; exact hseq) (hQ E a ⟨hS.congr (fun n => ?_) (fun n hn => ?_), ⟨fun t => ?_, hGT.defers, hGT.size⟩⟩)
    · -- the blocks
      have hap : lkB (nbF ++ st1) n = match lkB nbF n with | some b => some b | none => lkB st1 n := by
        generalize nbF = nb
        induction nb with
        | nil => rfl
        | cons p nb ih =>
          obtain ⟨k, b⟩ := p
          simp only [List.cons_append, lkB]
          split
          · rfl
          · exact ih
      show lkB (nbF ++ st1) n = _
      rw [hap]
      by_cases hn : nx ≤ n
      · rw [if_pos hn]
        by_cases hh : hd.contains (n - nx) = true
        · rw [if_pos (hall _ (by simpa using hh)), hst1 n hn]; cases lkB nbF n <;> rfl
        · have : lkB nbF n = none := by
            rw [f2 n (fun p hp e => hh ?_)]; rfl
            have := (hmN.1 (pickOps_mem.1 hp).1).1
            rw [e, Nat.add_sub_cancel_left]; simpa using this
          rw [this, hst1 n hn]; simp
      · rw [if_neg hn, if_pos (hall iw hiwh')]
        have : lkB nbF n = none := by
          rw [f2 n (fun p hp e => by omega)]; rfl
        rw [this]
    · have hn' : nx + l.length ≤ n := hn
      refine ⟨by omega, fun h => ?_⟩
      rw [show listed.getD (n - nx) false = false by
        simp [Array.getD_eq_getD_getElem?, Array.getElem?_eq_none (show listed.size ≤ n - nx by omega)]] at h
      cases h
    · have := hGT.tm t
      show RV E (lkT tmF t) _
      by_cases hw : ((pickOps l (hd.filter (fun i => i != iw))).any fun p => p.2.dst == some t && listed.getD p.1 false) = true
      · rw [if_pos hw] at this; exact this
      · rw [if_neg hw] at this
        rw [f1 t (fun p hp e => hw (List.any_eq_true.2 ⟨p, hp, by simp [e, hall p.1 (hmN.1 (pickOps_mem.1 hp).1).1]⟩))]
        exact this
  | succ F ih =>
    intro listed E a inv hT hcnt hS hGT
    have hsz : listed.size = l.length := by rw [inv.size]; simp
    rw [show F + 1 + tail.length = (F + tail.length) + 1 by omega]
    -- an operation of the head that has not run
    obtain ⟨k, hk, hku⟩ : ∃ k, k ∈ hd ∧ listed.getD k false = false := by
      have : 0 < hd.countP (fun i => !listed.getD i false) := by omega
      obtain ⟨k, h1, h2⟩ := List.countP_pos_iff.1 this
      exact ⟨k, h1, by simpa using h2⟩
    have hkl : k < l.length := by have := List.all_eq_true.1 hlt k hk; simpa using this
    have hku' : listed.getD k true = false := getD_in (by omega) hku
    refine ⟨fun hr => ?_, fun i hi => ?_⟩
    · -- the least that has not run is ready
      obtain ⟨m, ⟨hm1, hm2⟩, hm3⟩ := exists_min (p := fun m => m < l.length ∧ listed.getD m false = false) ⟨k, hkl, hku⟩
      have : m ∈ Region.ready .any l.toArray listed := by
        refine mem_ready.2 ⟨getD_in (by omega) hm2, l[m], by simp [hm1], fun e he hb => ?_⟩
        have h1 := List.all_eq_true.1 hedge m (List.mem_range.2 hm1)
        rw [List.getElem?_eq_getElem hm1] at h1
        have h2 := List.all_eq_true.1 h1 e (by simpa using he)
        rw [hb] at h2
        simp at h2
        cases hc : listed.getD e.on false with
        | true => rfl
        | false => exact (hm3 e.on h2 ⟨by omega, hc⟩).elim
      rw [hr] at this
      cases this
    · have hih := sink_spec hsink inv (i := k) (by simpa using hkl) (by simpa using hk) hku' hi
      have hi' : i ∈ hd := by simpa using hih
      obtain ⟨hiun, o, ho, hafter⟩ := mem_ready.1 hi
      have hol : l[i]? = some o := by simpa using ho
      have hil : i < l.length := (List.getElem?_eq_some_iff.1 hol).1
      have hiun' := getD_both hiun
      have hopk := List.all_eq_true.1 hN o (List.mem_of_getElem? hol)
      have inv2 := inv.set hi
      have hself : (listed.setIfInBounds i true).getD i false = true := by simp [hsz, hil]
      have hoth : ∀ j, j ≠ i → (listed.setIfInBounds i true).getD j false = listed.getD j false := fun j hj => getD_set_ne false (Ne.symm hj)
      have hT2 : ∀ t ∈ tail, (listed.setIfInBounds i true).getD t false = false := fun t ht => by
        rw [hoth t (fun e => by have := htl' t ht; rw [e] at this; rw [this] at hih; cases hih)]; exact hT t ht
      have hcnt2 : hd.countP (fun j => !(listed.setIfInBounds i true).getD j false) = F := by
        have := countP_set hnd' hi' (f := fun j => !listed.getD j false) (g := fun j => !(listed.setIfInBounds i true).getD j false) (by simp [hiun']) (by simp [hself]) (fun j hj => by rw [hoth j hj])
        omega
      by_cases hiw : i = iw
      · -- the write
        subst hiw
        rw [hol] at hwok
        simp only [Bool.and_eq_true] at hwok
        obtain ⟨⟨hwd, hwg⟩, hwl⟩ := hwok
        have hwd' : o.dst = none := by simpa using hwd
        have hwg' : o.guard = none := by simpa using hwg
        have hag : ∀ t ∈ o.looksAt l.toArray, (if ((pickOps l (hd.filter (fun j => j != i))).any fun p => p.2.dst == some t && listed.getD p.1 false) = true then lkT tmF t else lkT tm0 t) = lkT tmF t := fun t ht => by
          by_cases hw : ((pickOps l (hd.filter (fun j => j != i))).any fun p => p.2.dst == some t && listed.getD p.1 false) = true
          · rw [if_pos hw]
          · rw [if_neg hw]
            refine (f1 t (fun q hq hqt => hw (List.any_eq_true.2 ⟨q, hq, ?_⟩))).symm
            have h1 := List.all_eq_true.1 (List.all_eq_true.1 hwl t ht) q hq
            simp only [Bool.or_eq_true, bne_iff_ne, ne_eq] at h1
            rcases h1 with h | h
            · exact (h hqt).elim
            · have := reach_listed inv _ _ _ h (fun o' ho' e he hb => by
                have : o' = o := Option.some.inj (ho'.symm.trans ho)
                subst this
                exact hafter e he hb)
              simp [hqt, this]
        have hw : Region.wanted o (yielded l.toArray a.tmps) = true := by simp [Region.wanted, hwg']
        have h1 := hwr o hol _ _ _ E a hS hGT (fun n hn => by rw [if_neg (by omega), hiun', if_neg (by simp)]) hag
        unfold wpOpIn
        simp only [ho, hw, if_true]
        refine h1.wpIn ?_
        rintro u w' ⟨E', rfl, hS', hext, hdp⟩
        rw [hwd']
        refine ih _ E' _ inv2 hT2 hcnt2 (hS'.congr (fun n => ?_) (fun n hn => ⟨hn.1, fun h => hn.2 (getD_set_true h)⟩)) ⟨fun t => ?_, ((hGT.ext hext hdp)).defers, hGT.size⟩
        · by_cases hn : nx ≤ n
          · have h3 : ¬ n < nx := by omega
            simp only [if_pos hn, if_neg h3]
            by_cases hni : n - nx = i
            · have hn' : n = nx + i := by omega
              have : lkB nbF n = none := by
                rw [f2 n (fun p hp e => by
                  have := (hmN.1 (pickOps_mem.1 hp).1).2
                  omega)]; rfl
              rw [this]
              simp
            · rw [hoth _ hni]
          · have h3 : n < nx := by omega
            simp only [if_neg hn, if_pos h3, if_pos hself]
        · have := (hGT.ext hext hdp).tm t
          have e : ((pickOps l (hd.filter (fun j => j != i))).any fun p => p.2.dst == some t && (listed.setIfInBounds i true).getD p.1 false) = ((pickOps l (hd.filter (fun j => j != i))).any fun p => p.2.dst == some t && listed.getD p.1 false) := by
            rw [Bool.eq_iff_iff, List.any_eq_true, List.any_eq_true]
            constructor
            · rintro ⟨p, hp, h⟩
              rw [hoth p.1 (hmN.1 (pickOps_mem.1 hp).1).2] at h
              exact ⟨p, hp, h⟩
            · rintro ⟨p, hp, h⟩
              refine ⟨p, hp, ?_⟩
              rw [hoth p.1 (hmN.1 (pickOps_mem.1 hp).1).2]
              exact h
          rw [e]
          exact this
      have hmem : (i, o) ∈ pickOps l (hd.filter (fun i => i != iw)) := pickOps_mem.2 ⟨hmN.2 ⟨hi', hiw⟩, hol⟩
      obtain ⟨tmi, v, x, g1, g2, g3, g4, g5⟩ := f3 (i, o) hmem
      simp only at g1 g2 g3 g4 g5
      have g3 := g3 rfl
      -- what it looks at is as it was evaluated
      have hag : ∀ t ∈ o.looksAt l.toArray, (if ((pickOps l (hd.filter (fun i => i != iw))).any fun p => p.2.dst == some t && listed.getD p.1 false) = true then lkT tmF t else lkT tm0 t) = tmi t := fun t ht => by
        have hd1 := List.all_eq_true.1 hdep (i, o) hmem
        have hd2 := List.all_eq_true.1 hd1 t ht
        by_cases hw : ((pickOps l (hd.filter (fun i => i != iw))).any fun p => p.2.dst == some t && listed.getD p.1 false) = true
        · rw [if_pos hw]
          obtain ⟨q, hq, hq2⟩ := List.any_eq_true.1 hw
          simp only [Bool.and_eq_true, beq_iff_eq] at hq2
          have hd3 := List.all_eq_true.1 hd2 q hq
          simp only [Bool.or_eq_true, bne_iff_ne, ne_eq] at hd3
          rcases hd3 with h | h
          · exact (h hq2.1).elim
          · by_cases hlt2 : q.1 < i
            · exact (g4 t q hq hlt2 hq2.1).symm
            · rw [if_neg hlt2] at h
              simp only [Bool.and_eq_true, decide_eq_true_eq] at h
              have := reach_listed inv _ _ _ h.2 (fun o' ho' e he hb => inv.closed q.1 o' ho' hq2.2 e he hb)
              rw [hiun'] at this
              cases this
        · rw [if_neg hw]
          refine (g5 t (fun q hq hql hqt => hw (List.any_eq_true.2 ⟨q, hq, ?_⟩))).symm
          have hd3 := List.all_eq_true.1 hd2 q hq
          simp only [Bool.or_eq_true, bne_iff_ne, ne_eq] at hd3
          rcases hd3 with h | h
          · exact (h hqt).elim
          · rw [if_pos hql] at h
            have := reach_listed inv _ _ _ h (fun o' ho' e he hb => by
              have : o' = o := Option.some.inj (ho'.symm.trans ho)
              subst this
              exact hafter e he hb)
            simp [hqt, this]
      have hst : ∀ n b, lkB st00 n = some b → (if nx ≤ n then (if listed.getD (n - nx) false = true then lkB nbF n else none) else if listed.getD iw false = true then lkB st1 n else lkB st0 n) = some b := fun n b hb => by
        by_cases hn : nx ≤ n
        · have := hs0 n b hb; rw [hst0 n hn] at this; cases this
        · rw [if_neg hn]
          split
          · exact hs1 n b hb
          · exact hs0 n b hb
      obtain ⟨h1, h2⟩ := g1 _ _ _ E a hS hGT ⟨by omega, fun h => by rw [Nat.add_sub_cancel_left, hiun'] at h; cases h⟩ hst hag
      have hoiw : (listed.setIfInBounds i true).getD iw false = listed.getD iw false := hoth iw (fun e => hiw e.symm)
      have hσ2 : ∀ n, (if nx ≤ n then (if (listed.setIfInBounds i true).getD (n - nx) false = true then lkB nbF n else none) else if (listed.setIfInBounds i true).getD iw false = true then lkB st1 n else lkB st0 n) = if n = nx + i then x else (if nx ≤ n then (if listed.getD (n - nx) false = true then lkB nbF n else none) else if listed.getD iw false = true then lkB st1 n else lkB st0 n) := fun n => by
        by_cases hn : n = nx + i
        · subst hn
          rw [if_pos rfl, if_pos (by omega), Nat.add_sub_cancel_left, if_pos hself, g3]
        · rw [if_neg hn]
          by_cases hn2 : nx ≤ n
          · rw [if_pos hn2, if_pos hn2, hoth (n - nx) (by omega)]
          · rw [if_neg hn2, if_neg hn2, hoiw]
      have hfr2 : ∀ n, (nx ≤ n ∧ ((listed.setIfInBounds i true).getD (n - nx) false = true → lkB nbF n = none)) → (nx ≤ n ∧ (listed.getD (n - nx) false = true → lkB nbF n = none)) ∧ (x.isSome = true → n ≠ nx + i) := fun n hn => by
        refine ⟨⟨hn.1, fun h => hn.2 (getD_set_true h)⟩, fun hx e => ?_⟩
        subst e
        have := hn.2 (by rw [Nat.add_sub_cancel_left]; exact hself)
        rw [g3] at this
        rw [this] at hx
        cases hx
      have htm2 : ∀ t, (if ((pickOps l (hd.filter (fun i => i != iw))).any fun p => p.2.dst == some t && (listed.setIfInBounds i true).getD p.1 false) = true then lkT tmF t else lkT tm0 t) = if o.dst = some t then v else (if ((pickOps l (hd.filter (fun i => i != iw))).any fun p => p.2.dst == some t && listed.getD p.1 false) = true then lkT tmF t else lkT tm0 t) := fun t => by
        by_cases hd1 : o.dst = some t
        · rw [if_pos hd1, if_pos (List.any_eq_true.2 ⟨(i, o), hmem, by simp [hd1, hself]⟩), g2 t hd1]
        · rw [if_neg hd1]
          have : ((pickOps l (hd.filter (fun i => i != iw))).any fun p => p.2.dst == some t && (listed.setIfInBounds i true).getD p.1 false) = ((pickOps l (hd.filter (fun i => i != iw))).any fun p => p.2.dst == some t && listed.getD p.1 false) := by
            rw [Bool.eq_iff_iff, List.any_eq_true, List.any_eq_true]
            constructor
            · rintro ⟨p, hp, h⟩
              simp only [Bool.and_eq_true, beq_iff_eq] at h
              have hpi : p.1 ≠ i := fun e => by
                have := (pickOps_mem.1 hp).2
                rw [e, hol] at this
                injection this with this
                rw [← this] at h
                exact hd1 h.1
              rw [hoth p.1 hpi] at h
              exact ⟨p, hp, by simp [h.1, h.2]⟩
            · rintro ⟨p, hp, h⟩
              simp only [Bool.and_eq_true, beq_iff_eq] at h
              exact ⟨p, hp, by simp [h.1, getD_set_true h.2]⟩
          rw [this]
      have hdN : ∀ t, o.dst = some t → t < B.N := fun t e => by
        have : (match o.dst with | some d => decide (d < B.N) | none => true) = true := by
          simp only [opOk, Bool.and_eq_true] at hopk; exact hopk.2
        rw [e] at this
        simpa using this
      unfold wpOpIn
      simp only [ho]
      cases hw : Region.wanted o (yielded l.toArray a.tmps) with
      | true =>
        rw [if_pos rfl]
        refine (h1 hw).wpIn ?_
        rintro u w' ⟨E', rfl, hS', hext, hdp, hv⟩
        exact ih _ E' _ inv2 hT2 hcnt2 (hS'.congr hσ2 hfr2) ((hGT.ext hext hdp).putF (fun t e => ⟨hv, hdN t e⟩) htm2)
      | false =>
        rw [if_neg (by simp)]
        obtain ⟨rfl, hv⟩ := h2 hw
        have hσn : ∀ n, (if n = nx + i then none else (if nx ≤ n then (if listed.getD (n - nx) false = true then lkB nbF n else none) else if listed.getD iw false = true then lkB st1 n else lkB st0 n)) = (if nx ≤ n then (if listed.getD (n - nx) false = true then lkB nbF n else none) else if listed.getD iw false = true then lkB st1 n else lkB st0 n) := fun n => by
          by_cases hn : n = nx + i
          · subst hn; rw [if_pos rfl, if_pos (by omega), Nat.add_sub_cancel_left, hiun', if_neg (by simp)]
          · rw [if_neg hn]
        exact ⟨fun _ _ => trivial, ih _ E _ inv2 hT2 hcnt2 (hS.congr (fun n => (hσ2 n).trans (hσn n)) (fun n hn => (hfr2 n hn).1)) (hGT.putF (fun t e => ⟨hv, hdN t e⟩) htm2)⟩
/-- the early write, evaluated -/
def earlyK (T : Tab) (o : Option Oper) (n : Nat) (tm : List (Nat × V)) (st : List (Nat × Blk)) (K : List (Nat × Blk) → Prop) : Prop := match o with
  | some o => match o.op with
    | .store t x y => match ty T t, ev (lkT tm) x with
      | some i, .ptr m off => match lkB st n, vcells (ev (lkT tm) y) with
        | some (.cells t' cs), some vs => m = n ∧ vs.length = i.sz ∧ off + i.sz ≤ cs.length ∧ K (setB n (.cells t' (splice cs off vs)) st)
        | _, _ => False
      | _, _ => False
    | _ => False
  | none => False
theorem early_ok (hT : TabOk P T) {l : List Oper} {iw n nx : Nat} {tm : List (Nat × V)} {st : List (Nat × Blk)} {K : List (Nat × Blk) → Prop} (hN : (l.all (opOk B.N)) = true) (hst : ∀ m, nx ≤ m → lkB st m = none) (h : earlyK T l[iw]? n tm st K) :
    ∃ st1, K st1 ∧ (∀ m, nx ≤ m → lkB st1 m = none) ∧ (∀ m, m ≠ n → lkB st1 m = lkB st m) ∧ ∀ ow, l[iw]? = some ow → ∀ (tm' : Nat → V) (σ : Nat → Option Blk) (fr : Nat → Prop) (E : Env) (a : Act), GamS P B σ fr E → GamT B tm' E a → (∀ n, n < nx → σ n = lkB st n) → (∀ t ∈ ow.looksAt l.toArray, tm' t = lkT tm t) →
      Upon P (fun u w' => ∃ E', E'.w = w' ∧ GamS P B (fun n => if n < nx then lkB st1 n else σ n) fr E' ∧ Ext E E' ∧ E'.dp = E.dp) ((execOp a.eval ow).run P E.w) := by
  unfold earlyK at h
  split at h <;> try exact h.elim
  rename_i o hol
  split at h <;> try exact h.elim
  rename_i t x y hop
  split at h <;> try exact h.elim
  rename_i i m off hi hx
  split at h <;> try exact h.elim
  rename_i t' cs vs hn hy
  obtain ⟨rfl, hsz, hoff, hK⟩ := h
  have hlt : m < nx := by
    rcases Nat.lt_or_ge m nx with h | h
    · exact h
    · rw [hst m h] at hn; cases hn
  refine ⟨_, hK, fun k hk => ?_, fun k hk => by rw [lkB_setB, if_neg hk], fun ow how tm' σ fr E a hS hGT hσ hag => ?_⟩
  · rw [lkB_setB, if_neg (by omega)]; exact hst k hk
  · rw [hol] at how
    cases how
    have hok := List.all_eq_true.1 hN o (List.mem_of_getElem? hol)
    have hm := opOk_mem hok
    have hxo : x ∈ o.op.operands := by simp [hop, Op.operands]
    have hyo : y ∈ o.op.operands := by simp [hop, Op.operands]
    have rx := ev_ok hGT x (hm x hxo)
    have ry := ev_ok hGT y (hm y hyo)
    rw [ev_congr (ops := l.toArray) hag hxo, hx] at rx
    rw [ev_congr (ops := l.toArray) hag hyo] at ry
    simp only [RV] at rx
    obtain ⟨b, hb1, hb2⟩ := rx
    obtain ⟨us, g1, g2, g3⟩ := vcells_ok hy ry
    have hσm : σ m = some (.cells t' cs) := by rw [hσ m hlt, hn]
    obtain ⟨b', cur, k1, k2, k3, k4, k5⟩ := hS.st m _ hσm
    rw [hb1] at k1
    cases k1
    have hl1 := g2.len
    have hl2 := k3.len
    obtain ⟨f1, f2, f3, f4, f5⟩ := setCells_facts b us off E.w
    have hrun := st_run (P := P) (w := E.w) (b := b) (o := off) (ty_ok hT hi) g1 g3 (by omega) (there_of k2 (by omega))
    have hW := GamS.write (x := .cells t' cs) (x' := .cells t' (splice cs off vs)) (σ' := fun k => if k < nx then lkB (setB m (.cells t' (splice cs off vs)) st) k else σ k) (w' := E.w.setCells b off us) hS hσm (fun k => by
      by_cases hk : k < nx
      · simp only [if_pos hk, lkB_setB]
        by_cases hkm : k = m
        · rw [if_pos hkm, if_pos hkm]
        · rw [if_neg hkm, if_neg hkm, hσ k hk]
      · simp only [if_neg hk]
        rw [if_neg (by omega)]) hb1 rfl (fun o' ho' => (k5.2.2.2 o' ho').elim) f1 f2 f3 f4 f5 (fun E' hE' hext hok => by
      subst hE'
      refine ⟨b, spliceU cur off us, hb1, setCells_splice k2 (by omega), RVL.splice (RVL.mono hext _ _ k3) (RVL.mono hext _ _ g2), fun u hu => ?_, hok⟩
      unfold spliceU at hu
      rcases List.mem_append.1 hu with hu | hu
      · rcases List.mem_append.1 hu with hu | hu
        · exact k4 u (List.mem_of_mem_take hu)
        · exact g3 u hu
      · exact k4 u (List.mem_of_mem_drop hu))
    have hr : (execOp a.eval o).run P E.w = .ok .skip (E.w.setCells b off us) := by simp [execOp, hop, hb2, hrun]
    rw [hr]
    exact ⟨_, rfl, hW.1, hW.2, rfl⟩
/-- a token; what comes behind the heads, kept from simp till they have run -/
structure TokH (K : List (Nat × V) → List (Nat × Blk) → Prop) : Type where
def fin2 (K : List (Nat × V) → List (Nat × Blk) → Prop) (_ : TokH K) (tm : List (Nat × V)) (nb : List (Nat × Blk)) : Prop := K tm nb
theorem fin2_intro {K : List (Nat × V) → List (Nat × Blk) → Prop} {tm : List (Nat × V)} {nb : List (Nat × Blk)} (h : K tm nb) : fin2 K ⟨⟩ tm nb := h
def tailX (iw : Nat) : Nat → List Oper → List Oper
  | _, [] => []
  | k, o :: l => match isT o.op, k == iw with
    | true, false => o :: tailX iw (k + 1) l
    | _, _ => tailX iw (k + 1) l
theorem tailX_eq (iw : Nat) : ∀ (l pre : List Oper), (pickOps (pre ++ l) ((tailIdx pre.length l).filter (fun i => i != iw))).map (·.2) = tailX iw pre.length l
  | [], pre => rfl
  | o :: l, pre => by
    have ih := tailX_eq iw l (pre ++ [o])
    simp only [List.append_assoc, List.cons_append, List.nil_append, List.length_append, List.length_cons, List.length_nil, Nat.zero_add] at ih
    have hg : (pre ++ o :: l)[pre.length]? = some o := by simp
    cases ht : isT o.op <;> simp only [tailIdx, tailX, ht]
    · exact ih
    · cases hk : (pre.length == iw)
      · rw [List.filter_cons_of_pos (by simpa using hk)]
        simp only [pickOps, hg, List.map_cons]
        rw [ih]
      · rw [List.filter_cons_of_neg (by simpa using hk)]
        exact ih
/-- such a region: the write with index iw, to the variable named n, may come early -/
theorem aw_drawnS (iw n : Nat) {id : Nat} {ops : Array Oper} {s : St} {Q : AQ} (hT : TabOk P T) (hm : P.follows .mixedOrders = true) (hl : (ops.toList.all (opOk B.N)) = true) (hok : drawOkS ops.toList (iw :: headIdx 0 ops.toList) ((tailIdx 0 ops.toList).filter (fun i => i != iw)) iw = true)
    (hh : (iw :: headIdx 0 ops.toList).filter (fun i => i != iw) = headIdx 0 ops.toList)
    (h : hwp P T ops (delB n s.st) s.nx (headOps 0 ops.toList) s.tm [] (fin2 (fun tm nb => earlyK T ops.toList[iw]? n tm s.st (fun st1 => rwp P B T ops (tailX iw 0 ops.toList) ⟨tm, nb ++ st1, s.nx + ops.toList.length⟩ (Q .normal))) ⟨⟩)) : AW P B (.region id ops true) Q ⟨⟩ s := fun E a hG => by
  obtain ⟨l, rfl⟩ : ∃ l : List Oper, ops = l.toArray := ⟨ops.toList, by simp⟩
  simp only [List.toList_toArray] at hl hok hh h
  have hops0 : ∀ o ∈ l.toArray.toList, opOk B.N o = true := fun o ho => List.all_eq_true.1 hl o (by simpa using ho)
  have e1 := headOps_eq l []
  have e2 := tailX_eq iw l []
  simp only [List.nil_append, List.length_nil] at e1 e2
  have hc : ((headOps 0 l).all fun p => p.2.op.operands.toList.all (constOk B.N)) = true := List.all_eq_true.2 fun p hp => by
    rw [← e1] at hp
    have := List.all_eq_true.1 hl p.2 (List.mem_of_getElem? (pickOps_mem.1 hp).2)
    simp only [opOk, Bool.and_eq_true] at this
    exact this.1
  obtain ⟨tmF, nbF, hK, hrun⟩ := hwp_ok (B := B) hT hops0 _ _ _ hc h
  have hG' := gam_drew hG
  have hst0 : ∀ n, s.nx ≤ n → lkB s.st n = none := fun n hn => hG.1.none_of_fresh hn
  unfold fin2 at hK
  obtain ⟨st1, hK1, hst1, hoth, hwr⟩ := early_ok (B := B) hT hl hst0 hK
  refine wpIn_region_any hm ?_
  have htail : ((pickOps l ((tailIdx 0 l).filter (fun i => i != iw))).map (·.2)).all (opOk B.N) = true := List.all_eq_true.2 fun o ho => by
    obtain ⟨p, hp, rfl⟩ := List.mem_map.1 ho
    exact List.all_eq_true.1 hl p.2 (List.mem_of_getElem? (pickOps_mem.1 hp).2)
  rw [← e1, ← hh] at hrun
  have := wpAny_headsS (Q := AQQ P B Q) hok hrun hl hst0 hst1 (fun m b hb => by rw [lkB_delB] at hb; split at hb; cases hb; exact hb) (fun m b hb => by
    rw [lkB_delB] at hb
    split at hb
    · cases hb
    · rename_i hmn; rw [hoth m hmn]; exact hb) hwr (fun E a hG => rwp_list hT hops0 _ _ _ htail (by rw [e2]; exact hK1) (fun s' hs E a hG => ⟨E, s', rfl, hG, hs⟩) E a hG) (iw :: headIdx 0 l).length (Array.replicate l.toArray.size false) ⟨E.η, E.F, { E.w with drawn := E.w.drawn + 1 }, E.dp⟩ a
    ⟨by simp, fun j oj _ hl => (by rw [getD_replicate_false] at hl; cases hl)⟩ (fun t _ => getD_replicate_false _ _) (by
      rw [List.countP_eq_length]; intro i _; rw [getD_replicate_false]; rfl)
    (hG'.1.congr (fun n => by
      rw [getD_replicate_false, getD_replicate_false]
      by_cases hn : s.nx ≤ n
      · rw [if_pos hn, if_neg (by simp), hst0 n hn]
      · rw [if_neg hn, if_neg (by simp)]) (fun n hn => hn.1))
    ⟨fun t => by
      have : ((pickOps l ((iw :: headIdx 0 l).filter (fun i => i != iw))).any fun p => p.2.dst == some t && (Array.replicate l.toArray.size false).getD p.1 false) = false := by
        rw [List.any_eq_false]; intro p _; rw [getD_replicate_false]; simp
      rw [this, if_neg (by simp)]
      exact hG'.2.tm t, hG'.2.defers, hG'.2.size⟩
  have hlen : (iw :: headIdx 0 l).length + ((tailIdx 0 l).filter (fun i => i != iw)).length = l.length := by
    simp only [drawOkS, Bool.and_eq_true, decide_eq_true_eq] at hok
    exact hok.1.1.2
  rw [hlen] at this
  simpa using this
end
end Go.Proofs.Ytfmefdeldgmhpaa

namespace Go.Proofs.Ytfmefdeldgmhpaa
set_option linter.unusedVariables false
set_option linter.unusedSimpArgs false
open Go.RowKit
theorem ltd {k n : Nat} (h : k < n) : decide ((k : Int) < (n : Int)) = true := decide_eq_true (by omega)
theorem ged {k n : Nat} (h : n ≤ k) : decide ((k : Int) < (n : Int)) = false := decide_eq_false (by omega)
section
variable {P : Program} {B : Base} {T : Tab}
theorem dV_flat (es : List (List D)) : (es.map dV).flatten = dV es.flatten := by rw [show dV es.flatten = es.flatten.map .d from rfl, List.map_flatten]; rfl
theorem callI_regrow {s : St} {f : FuncId} {vs : List V} {d : Option Tmp} {K : St → Prop} {n el sz : Nat} {d0 : List V} {dd : List D} {es : List (List V)} {fs : List (List D)}
    (hname : (P.funcs[f]?).any (fun fn => fn.name != "runtime.NumGoroutine" && fn.body.isSome) = true) (hd : (match d with | some t => decide (t < B.N) | none => true) = true) (hlk : lkB s.st n = some (.row el sz d0 es))
    (hmax : fs.length ≤ 140737488351232) (hl2 : ∀ x ∈ fs, x.length = sz)
    (H : ∀ (E : Env) (a : Act) (us : List Value) (v : Value) (ys : List Value), Gam P B s E a → RVL E vs us → E.η n = some v → E.w.ownsRow 0 el sz v es.length ys → RVL E es.flatten ys → (∀ u ∈ ys, u.oneCell' = true) →
      Calls P f us.toArray E.w fun e w' => ∃ v' news, e = .returned v' ∧ Grew 0 el sz E.w v v' fs.length news w' ∧ (∀ g, v.ownBlock = some g → v'.ownBlock = some g ∨ w'.heap[g]? = E.w.heap[g]?) ∧ RDL E.F E.w fs.flatten news ∧ ∀ u ∈ news, u.oneCell' = true)
    (hK : K ⟨put d (.ow s.nx sz dd fs) s.tm, (s.nx, .tok el sz fs.length) :: delB n s.st, s.nx + 1⟩) : callI P B f vs d s K ⟨⟩ := by
  have hd : ∀ t, d = some t → t < B.N := fun t e => by rw [e] at hd; simpa using hd
  refine ⟨hname, fun E a us hG hv => ?_⟩
  obtain ⟨v, ys, h1, h2, h3, h4, h5, h6, h7⟩ := hG.1.st n _ hlk
  refine (H E a us v ys hG hv h1 h2 h3 h5).mono ?_
  rintro e w' ⟨v', news, rfl, hg, hk, hd2, ho2⟩
  obtain ⟨a0, c0, hv0, _⟩ := own_form h2
  have hdp : ∀ b, hb v = some b → E.w.heap[b]? ≠ some (.deferred (some [])) := fun b hb' => by
    rcases h2.2 with ⟨e1, _⟩ | ⟨g, cap, cur, e1, _, e3, _⟩
    · rw [e1] at hb'; cases hb'
    · rw [e1] at hb'; cases hb'; rw [e3]; simp
  have hnone : lkB s.st s.nx = none := hG.1.none_of_fresh (Nat.le_refl _)
  obtain ⟨E', hw, hGs, hE, hR, hD⟩ := GamS.grow (el := el) (sz := sz) (d0 := dd) (σ1 := lkB (delB n s.st)) (σ' := lkB ((s.nx, .tok el sz fs.length) :: delB n s.st)) (fr' := fun k => s.nx + 1 ≤ k) (nx := s.nx) (n := 0) (m := fs.length) (es := []) (fs := fs) (us0 := []) (news := news) hG.1 hdp (Nat.le_refl _) (fun k hk => ⟨by omega, by omega⟩)
    (fun k => by simp [lkB]) (fun k y hy => by
      rw [lkB_delB] at hy
      by_cases hkn : k = n
      · rw [if_pos hkn] at hy; cases hy
      · rw [if_neg hkn] at hy
        exact ⟨hy, fun u b hu hbk hb0 => hG.1.dist k n y _ b u v hkn hy hlk hu h1 hbk hb0⟩)
    (by rw [lkB_delB]; split <;> simp [hnone]) (fun b hb' => by have := h7 b hb'; exact ⟨this.1, this.2.1, this.2.2.1, fun o ho => (this.2.2.2 o ho).elim⟩)
    (by rw [Nat.zero_add, List.nil_append]; exact hg) hk (ownBlock_hb hv0) rfl rfl (by simp) (fun g _ j u hj => by simp at hj) (by simp [RDL]) hd2 (by simp) ho2 (by simp) hl2 (by simpa using hmax)
  exact ⟨v', E', _, rfl, hw, ⟨hGs, (hG.2.ext hE hD).put hR hd⟩, hK⟩
/-- a region that draws its order, its head and tail given -/
theorem aw_drawnX {id : Nat} {ops : Array Oper} {s : St} {Q : AQ} (hd tail : List Nat) (hT : TabOk P T) (hm : P.follows .mixedOrders = true) (hl : (ops.toList.all (opOk B.N)) = true) (hok : drawOk ops.toList hd tail = true)
    (h : hwp P T ops s.st s.nx (pickOps ops.toList hd) s.tm [] (fun tm nb => rwp P B T ops ((pickOps ops.toList tail).map (·.2)) ⟨tm, nb ++ s.st, s.nx + ops.toList.length⟩ (Q .normal))) : AW P B (.region id ops true) Q ⟨⟩ s :=
  aw_regionD (l := ops.toList) hd tail hT hm rfl hl hok h
end
end Go.Proofs.Ytfmefdeldgmhpaa

namespace Go.Proofs.Ytfmefdeldgmhpaa
set_option linter.unusedSimpArgs false
set_option linter.unusedVariables false
open Go.RowKit
set_option maxRecDepth 100000
set_option maxHeartbeats 4000000
def idR (n : Int) : Prop := 0 ≤ n ∧ n ≤ 1048576
theorem gadd1_spec (y : Ent) (no : Int) (h1 : idR y.no) (h2 : idR no) : Spec Try.prog 55 [.agg (entD y), aI no] (.r1 (aI (y.no - no))) := by
  unfold idR at h1 h2
  refine spec_of T_ok Try.func55 (by dsimp only [Try.f55]) rfl rfl (by simp) fun w F => ?_
  repeat' (first
    | (with_reducible refine aw_seq ?_)
    | ((with_reducible refine twoG_intro ?_ ?_) <;> intro hTw <;> first | (exact Bool.noConfusion hTw) | ((try simp only [hTw, Bool.not_true, Bool.not_false, Bool.true_and, Bool.false_and, Bool.and_true, Bool.and_false, Bool.true_or, Bool.false_or, Bool.or_true, Bool.or_false]); (first | (guard_hyp hTw : true = true; clear hTw) | (guard_hyp hTw : false = false; clear hTw) | (revert hTw; intro _))))
    | ((with_reducible refine two_intro ?_ ?_) <;> intro hTw <;> first | (exact Bool.noConfusion hTw) | ((first | (guard_hyp hTw : true = true; clear hTw) | (guard_hyp hTw : false = false; clear hTw) | (revert hTw; intro _))))
    | ((with_reducible refine And.intro ?_ ?_); (focus (first | omega | rfl | decide | grind)))
    | (with_reducible refine aw_block ?_)
    | (with_reducible refine aw_scope ?_)
    | ((first
        | ((with_reducible refine aw_regionA T_ok ?_ ?_); (focus kernel_rfl))
        | ((with_reducible refine aw_drawnA T_ok ?_ ?_ ?_ ?_); (focus kernel_rfl); (focus kernel_rfl); (focus kernel_rfl))
        | (with_reducible refine aw_label ?_)
        | ((with_reducible refine aw_rfM ?_ ?_); (focus kernel_rfl))
        | (with_reducible refine aw_skip ?_)
        | (with_reducible refine aw_exit ?_)
        | ((with_reducible refine aw_condM ?_ ?_); (focus kernel_rfl))
        | (with_reducible refine aw_ret ?_)
      ); simp only [↓rwp.eq_def, ↓sop.eq_def, ↓slotK.eq_def, inV, shT, unT, inQ, rfQ, rfEnd, resOf, pickT, setP, ydA, ydQ, rowW, vD, fillV,  ↓gop.eq_def, ↓hop.eq_def, ↓hopH.eq_def, ↓hwp.eq_def, ↓ldV.eq_def, ↓ldK.eq_def, ↓ixK.eq_def, ↓addOff.eq_def, ↓exK.eq_def, ↓notK.eq_def, ↓pickK.eq_def, ↓iop2.eq_def, ↓binK.eq_def, ↓eqop.eq_def, icells, ↓iop.eq_def, ↓cutK.eq_def, ↓lenK.eq_def, ↓lenM.eq_def, tyInt, ↓lookK.eq_def, ↓mpK.eq_def, keyV, allI, fitK, lkM, upM, dlM, kq, ↓cvK.eq_def, ↓mmK.eq_def, ↓biK.eq_def, ↓stK.eq_def, ↓apK.eq_def, ↓apD.eq_def, ↓apS.eq_def, nxt, put, setT, setB, delB, lkT_n, lkT_c, lkB_n, lkB_c, ev, ofC, inT, ofA, ofRet, dV_n, dV_c, getD_enc, toDs_dV, List.head?_cons, List.length_map, Option.toArray_some, Option.toArray_none, Int.toNat_natCast, slOf, TyK.agg, vcells, splice, pickOps, zOf, strip, stripP, gOf, allP, rowV, toDs, toD, toA, toAs, headOps, tailOps, isT, addN, Op.operands, Call.operands, List.map_cons, List.map_nil, List.drop_zero, List.drop_succ_cons, List.take_succ_cons, List.take_zero, List.length_cons, List.length_nil, List.getElem?_cons_zero, List.getElem?_cons_succ, List.getElem?_toArray, Option.bind_some, Option.map_some, Option.map_none, List.append_nil, List.nil_append, List.cons_append, if_true, if_false, reduceIte, Nat.reduceEqDiff, Nat.reduceAdd, Nat.reduceSub, Int.reduceToNat, Nat.reduceLeDiff, Nat.reduceLT, and_false, and_self, Nat.zero_add, Nat.add_zero, reduceCtorEq, Option.getD_some, Option.getD_none, Option.isSome_some, Option.isSome_none, forall_const, true_and, and_true, true_implies, Bool.true_and, Bool.false_and, Bool.and_true, Bool.and_false, Bool.true_or, Bool.false_or, Bool.or_true, Bool.or_false, beq_self_eq_true, zipM, zcells, Value.cells, Value.oneCell', List.toList_toArray, Array.toList_append, Bool.not_not, List.cons.injEq, Int.reduceEq, eq_self, false_and, Bool.not_true, Bool.not_false, ne_eq, not_false_eq_true, imp_self, implies_true, av_bt, av_bf, av_and, av_or, av_nf, av_tt, av_n1, av_n2, av_t1, av_tp, retQ, retL, resV, RetV, RetOk, SubL, entD_len, entD_take, entD_hd, entD_ln, entD_ic, entD_d1, entD_d2, entD_d3, entD_d4, entD_d5, entD_d6, entD_d7, ty_39, ty_3, ty_22, ty_4, ty_91]; try simp (disch := omega) only [av_w, av_t1, av_tp, Int.toNat_natCast]))
  exact Sub.refl _
theorem getD_at {l : List Ent} {k : Nat} (h : k < l.length) : l.getD k default = l[k] := by simp [List.getD, h]
theorem mid_run {i j m : Nat} (h : i + j ≤ 1048576) (hm : m = (i + j) / 2) : IntKind.i64.wrap ((IntKind.u64.wrap ((i : Int) + (j : Int))).fdiv (2 ^ min 1 IntKind.u64.bits)) = (m : Int) := by
  have h1 : IntKind.u64.wrap ((i : Int) + (j : Int)) = ((i + j : Nat) : Int) := by
    rw [IntKind.wrap_u64]; omega
  rw [h1, show (2 : Int) ^ min 1 IntKind.u64.bits = 2 by decide, Int.fdiv_eq_ediv_of_nonneg _ (by decide), hm, IntKind.wrap_i64]
  omega
def lbE (l : List Ent) (no : Int) : Nat := (l.takeWhile (fun y => decide (y.no < no))).length
def foundE (l : List Ent) (no : Int) : Bool := decide (lbE l no < l.length) && (l.getD (lbE l no) default).no == no
theorem lbE_of {l : List Ent} {no : Int} : ∀ {i : Nat}, i ≤ l.length → (∀ k, k < i → (l.getD k default).no < no) → (i < l.length → no ≤ (l.getD i default).no) → lbE l no = i := by
  unfold lbE
  induction l with
  | nil => intro i hi _ _; simp at hi; simp [hi]
  | cons x l ih =>
    intro i hi h1 h2
    cases i with
    | zero =>
      have := h2 (by simp)
      simp only [List.getD_cons_zero] at this
      rw [List.takeWhile_cons, if_neg (by simp; omega)]
      rfl
    | succ i =>
      have h0 := h1 0 (by omega)
      simp only [List.getD_cons_zero] at h0
      rw [List.takeWhile_cons, if_pos (by simpa using h0), List.length_cons, ih (i := i) (by simpa using hi) (fun k hk => by simpa using h1 (k + 1) (by omega)) (fun h => by simpa using h2 (by simpa using h))]
def fnA : A := .one (.c (.func (.func 55) #[] #[]))
theorem bsE_spec (l : List Ent) (no : Int) (hl : l.length ≤ 1024) (hno : idR no) (hid : ∀ x ∈ l, idR x.no) (hp : l.Pairwise (fun x y => x.no < y.no)) : Spec Try.prog 54 [aEs l, aI no, fnA] (.rt [aI (lbE l no), aB (foundE l no)]) := by
  have hid' : ∀ k, idR (l.getD k default).no := fun k => by
    rcases Nat.lt_or_ge k l.length with h | h
    · rw [List.getD, List.getElem?_eq_getElem h]; exact hid _ (by simp)
    · rw [List.getD, List.getElem?_eq_none h]; exact ⟨by decide, by decide⟩
  unfold fnA
  refine spec_of T_ok Try.func54 (by dsimp only [Try.f54]) rfl rfl (by simp) fun w F => ?_
  repeat' (first
    | (with_reducible refine aw_seq ?_)
    | ((with_reducible refine twoG_intro ?_ ?_) <;> intro hTw <;> first | (exact Bool.noConfusion hTw) | ((try simp only [hTw, Bool.not_true, Bool.not_false, Bool.true_and, Bool.false_and, Bool.and_true, Bool.and_false, Bool.true_or, Bool.false_or, Bool.or_true, Bool.or_false]); (first | (guard_hyp hTw : true = true; clear hTw) | (guard_hyp hTw : false = false; clear hTw) | (revert hTw; intro _))))
    | ((with_reducible refine two_intro ?_ ?_) <;> intro hTw <;> first | (exact Bool.noConfusion hTw) | ((first | (guard_hyp hTw : true = true; clear hTw) | (guard_hyp hTw : false = false; clear hTw) | (revert hTw; intro _))))
    | ((with_reducible refine And.intro ?_ ?_); (focus (first | omega | rfl | decide | grind)))
    | (with_reducible refine aw_block ?_)
    | (with_reducible refine aw_scope ?_)
    | ((first
        | ((with_reducible refine aw_regionA T_ok ?_ ?_); (focus kernel_rfl))
        | ((with_reducible refine aw_drawnA T_ok ?_ ?_ ?_ ?_); (focus kernel_rfl); (focus kernel_rfl); (focus kernel_rfl))
        | (with_reducible refine aw_label ?_)
        | ((with_reducible refine aw_rfM ?_ ?_); (focus kernel_rfl))
        | (with_reducible refine aw_skip ?_)
        | (with_reducible refine aw_exit ?_)
        | ((with_reducible refine aw_condM ?_ ?_); (focus kernel_rfl))
        | (with_reducible refine aw_ret ?_)
      ); simp only [↓rwp.eq_def, ↓sop.eq_def, ↓slotK.eq_def, inV, shT, unT, inQ, rfQ, rfEnd, resOf, pickT, setP, ydA, ydQ, rowW, vD, fillV,  ↓gop.eq_def, ↓hop.eq_def, ↓hopH.eq_def, ↓hwp.eq_def, ↓ldV.eq_def, ↓ldK.eq_def, ↓ixK.eq_def, ↓addOff.eq_def, ↓exK.eq_def, ↓notK.eq_def, ↓pickK.eq_def, ↓iop2.eq_def, ↓binK.eq_def, ↓eqop.eq_def, icells, ↓iop.eq_def, ↓cutK.eq_def, ↓lenK.eq_def, ↓lenM.eq_def, tyInt, ↓lookK.eq_def, ↓mpK.eq_def, keyV, allI, fitK, lkM, upM, dlM, kq, ↓cvK.eq_def, ↓mmK.eq_def, ↓biK.eq_def, ↓stK.eq_def, ↓apK.eq_def, ↓apD.eq_def, ↓apS.eq_def, nxt, put, setT, setB, delB, lkT_n, lkT_c, lkB_n, lkB_c, ev, ofC, inT, ofA, ofRet, dV_n, dV_c, getD_enc, toDs_dV, List.head?_cons, List.length_map, Option.toArray_some, Option.toArray_none, Int.toNat_natCast, slOf, TyK.agg, vcells, splice, pickOps, zOf, strip, stripP, gOf, allP, rowV, toDs, toD, toA, toAs, headOps, tailOps, isT, addN, Op.operands, Call.operands, List.map_cons, List.map_nil, List.drop_zero, List.drop_succ_cons, List.take_succ_cons, List.take_zero, List.length_cons, List.length_nil, List.getElem?_cons_zero, List.getElem?_cons_succ, List.getElem?_toArray, Option.bind_some, Option.map_some, Option.map_none, List.append_nil, List.nil_append, List.cons_append, if_true, if_false, reduceIte, Nat.reduceEqDiff, Nat.reduceAdd, Nat.reduceSub, Int.reduceToNat, Nat.reduceLeDiff, Nat.reduceLT, and_false, and_self, Nat.zero_add, Nat.add_zero, reduceCtorEq, Option.getD_some, Option.getD_none, Option.isSome_some, Option.isSome_none, forall_const, true_and, and_true, true_implies, Bool.true_and, Bool.false_and, Bool.and_true, Bool.and_false, Bool.true_or, Bool.false_or, Bool.or_true, Bool.or_false, beq_self_eq_true, zipM, zcells, Value.cells, Value.oneCell', List.toList_toArray, Array.toList_append, Bool.not_not, List.cons.injEq, Int.reduceEq, eq_self, false_and, Bool.not_true, Bool.not_false, ne_eq, not_false_eq_true, imp_self, implies_true, av_bt, av_bf, av_and, av_or, av_nf, av_tt, av_n1, av_n2, av_t1, av_tp, retQ, retL, resV, RetV, RetOk, SubL, entD_len, entD_take, entD_hd, entD_ln, entD_ic, entD_d1, entD_d2, entD_d3, entD_d4, entD_d5, entD_d6, entD_d7, ty_39, ty_3, ty_22, ty_4, ty_91]; try simp (disch := omega) only [av_w, av_t1, av_tp, Int.toNat_natCast]))
  refine aw_loopI (fun x : Nat × Nat => ⟨[(0, vEs l), (1, vI no), (2, .d (.c (.func (.func 55) #[] #[]))), (8, vI l.length), (9, vI x.1), (10, vI x.2)], [], 0⟩)
    (fun x => x.1 ≤ x.2 ∧ x.2 ≤ l.length ∧ (∀ k, k < x.1 → (l.getD k default).no < no) ∧ (∀ k, x.2 ≤ k → k < l.length → no ≤ (l.getD k default).no)) (fun x => x.2 - x.1) (0, l.length) ⟨Nat.zero_le _, Nat.le_refl _, fun k hk => absurd hk (Nat.not_lt_zero k), fun k h1 h2 => absurd h2 (by omega)⟩ (wk_of [] rfl rfl ?_ ?_) ?_
  · simp only [wkT, wkB, wkB1, subV, subVs, subD, subB, lkN_n, lkN_c, lkT_n, lkT_c, lkB_n, lkB_c, if_true, if_false, reduceIte, Nat.reduceEqDiff, true_and, and_true, and_self, inT, ofA]
    (repeat' (first | exact trivial | rfl | exact rfl | refine And.intro ?_ ?_))
  · simp only [wkT, wkB, wkB1, subV, subVs, subD, subB, lkN_n, lkN_c, lkT_n, lkT_c, lkB_n, lkB_c, if_true, if_false, reduceIte, Nat.reduceEqDiff, true_and, and_true, and_self, inT, ofA]
  rintro ⟨i, j⟩ ⟨hij, hjn, hlo, hhi⟩
  dsimp only at hij hjn hlo hhi ⊢
  rcases Nat.lt_or_ge i j with hlt | hge
  · have hd := ltd hlt
    obtain ⟨m, hm⟩ : ∃ m, m = (i + j) / 2 := ⟨_, rfl⟩
    have hw := mid_run (i := i) (j := j) (m := m) (by omega) hm
    have hmn : m < l.length := by omega
    have hgm : l.getD m default ∈ l := by rw [List.getD, List.getElem?_eq_getElem hmn]; simp
    repeat' (first
      | (with_reducible refine aw_seq ?_)
      | ((with_reducible refine twoG_intro ?_ ?_) <;> intro hTw <;> first | (exact Bool.noConfusion hTw) | ((try simp only [hTw, Bool.not_true, Bool.not_false, Bool.true_and, Bool.false_and, Bool.and_true, Bool.and_false, Bool.true_or, Bool.false_or, Bool.or_true, Bool.or_false]); (first | (guard_hyp hTw : true = true; clear hTw) | (guard_hyp hTw : false = false; clear hTw) | (revert hTw; intro _))))
      | ((with_reducible refine two_intro ?_ ?_) <;> intro hTw <;> first | (exact Bool.noConfusion hTw) | ((first | (guard_hyp hTw : true = true; clear hTw) | (guard_hyp hTw : false = false; clear hTw) | (revert hTw; intro _))))
      | ((with_reducible refine And.intro ?_ ?_); (focus (first | omega | rfl | decide | grind)))
      | (with_reducible refine aw_block ?_)
      | (with_reducible refine aw_scope ?_)
      | ((first
          | ((with_reducible refine aw_regionA T_ok ?_ ?_); (focus kernel_rfl))
          | ((with_reducible refine aw_drawnA T_ok ?_ ?_ ?_ ?_); (focus kernel_rfl); (focus kernel_rfl); (focus kernel_rfl))
          | ((with_reducible refine callK_intro (gadd1_spec _ no (hid' m) hno) (by with_unfolding_all rfl) ?_ ?_); (focus kernel_rfl))
          | ((with_reducible refine callI_spec (gadd1_spec _ no (hid' m) hno) (by with_unfolding_all rfl) ?_ ?_ ?_); (focus kernel_rfl); (focus kernel_rfl))
          | (with_reducible refine aw_label ?_)
          | ((with_reducible refine aw_rfM ?_ ?_); (focus kernel_rfl))
          | (with_reducible refine aw_skip ?_)
          | (with_reducible refine aw_exit ?_)
          | ((with_reducible refine aw_condM ?_ ?_); (focus kernel_rfl))
          | (with_reducible refine aw_ret ?_)
        ); simp only [↓rwp.eq_def, ↓sop.eq_def, ↓slotK.eq_def, inV, shT, unT, inQ, rfQ, rfEnd, resOf, pickT, setP, ydA, ydQ, rowW, vD, fillV,  ↓gop.eq_def, ↓hop.eq_def, ↓hopH.eq_def, ↓hwp.eq_def, ↓ldV.eq_def, ↓ldK.eq_def, ↓ixK.eq_def, ↓addOff.eq_def, ↓exK.eq_def, ↓notK.eq_def, ↓pickK.eq_def, ↓iop2.eq_def, ↓binK.eq_def, ↓eqop.eq_def, icells, ↓iop.eq_def, ↓cutK.eq_def, ↓lenK.eq_def, ↓lenM.eq_def, tyInt, ↓lookK.eq_def, ↓mpK.eq_def, keyV, allI, fitK, lkM, upM, dlM, kq, ↓cvK.eq_def, ↓mmK.eq_def, ↓biK.eq_def, ↓stK.eq_def, ↓apK.eq_def, ↓apD.eq_def, ↓apS.eq_def, nxt, put, setT, setB, delB, lkT_n, lkT_c, lkB_n, lkB_c, ev, ofC, inT, ofA, ofRet, dV_n, dV_c, getD_enc, toDs_dV, List.head?_cons, List.length_map, Option.toArray_some, Option.toArray_none, Int.toNat_natCast, slOf, TyK.agg, vcells, splice, pickOps, zOf, strip, stripP, gOf, allP, rowV, toDs, toD, toA, toAs, headOps, tailOps, isT, addN, Op.operands, Call.operands, List.map_cons, List.map_nil, List.drop_zero, List.drop_succ_cons, List.take_succ_cons, List.take_zero, List.length_cons, List.length_nil, List.getElem?_cons_zero, List.getElem?_cons_succ, List.getElem?_toArray, Option.bind_some, Option.map_some, Option.map_none, List.append_nil, List.nil_append, List.cons_append, if_true, if_false, reduceIte, Nat.reduceEqDiff, Nat.reduceAdd, Nat.reduceSub, Int.reduceToNat, Nat.reduceLeDiff, Nat.reduceLT, and_false, and_self, Nat.zero_add, Nat.add_zero, reduceCtorEq, Option.getD_some, Option.getD_none, Option.isSome_some, Option.isSome_none, forall_const, true_and, and_true, true_implies, Bool.true_and, Bool.false_and, Bool.and_true, Bool.and_false, Bool.true_or, Bool.false_or, Bool.or_true, Bool.or_false, beq_self_eq_true, zipM, zcells, Value.cells, Value.oneCell', List.toList_toArray, Array.toList_append, Bool.not_not, List.cons.injEq, Int.reduceEq, eq_self, false_and, Bool.not_true, Bool.not_false, ne_eq, not_false_eq_true, imp_self, implies_true, av_bt, av_bf, av_and, av_or, av_nf, av_tt, av_n1, av_n2, av_t1, av_tp, retQ, retL, resV, RetV, RetOk, SubL, entD_len, entD_take, entD_hd, entD_ln, entD_ic, entD_d1, entD_d2, entD_d3, entD_d4, entD_d5, entD_d6, entD_d7, ty_39, ty_3, ty_22, ty_4, ty_91, hd, hw]; try simp (disch := omega) only [av_w, av_t1, av_tp, Int.toNat_natCast]))
    · rename_i h1
      have h1 : (l.getD m default).no < no := by have := of_decide_eq_true h1; omega
      refine ⟨(m + 1, j), ⟨by dsimp only; omega, hjn, fun k hk => ?_, hhi⟩, by dsimp only; omega, wk_of [] rfl rfl ?_ ?_⟩
      · by_cases hkm : k = m
        · rw [hkm]; exact h1
        · have := List.pairwise_iff_getElem.1 hp k m (by dsimp only at hk; omega) hmn (by dsimp only at hk; omega)
          rw [getD_at hmn] at h1
          rw [getD_at (by dsimp only at hk; omega)]
          omega
      · simp only [wkT, wkB, wkB1, subV, subVs, subD, subB, lkN_n, lkN_c, lkT_n, lkT_c, lkB_n, lkB_c, if_true, if_false, reduceIte, Nat.reduceEqDiff, true_and, and_true, and_self, inT, ofA]
        (repeat' (first | exact trivial | rfl | exact rfl | refine And.intro ?_ ?_))
      · simp only [wkT, wkB, wkB1, subV, subVs, subD, subB, lkN_n, lkN_c, lkT_n, lkT_c, lkB_n, lkB_c, if_true, if_false, reduceIte, Nat.reduceEqDiff, true_and, and_true, and_self, inT, ofA]
    · rename_i h1
      have h1 : no ≤ (l.getD m default).no := by have := of_decide_eq_false h1; omega
      refine ⟨(i, m), ⟨by dsimp only; omega, by dsimp only; omega, hlo, fun k hk hk2 => ?_⟩, by dsimp only; omega, wk_of [] rfl rfl ?_ ?_⟩
      · by_cases hkm : k = m
        · rw [hkm]; exact h1
        · have := List.pairwise_iff_getElem.1 hp m k hmn hk2 (by dsimp only at hk; omega)
          rw [getD_at hmn] at h1
          rw [getD_at hk2]
          omega
      · simp only [wkT, wkB, wkB1, subV, subVs, subD, subB, lkN_n, lkN_c, lkT_n, lkT_c, lkB_n, lkB_c, if_true, if_false, reduceIte, Nat.reduceEqDiff, true_and, and_true, and_self, inT, ofA]
        (repeat' (first | exact trivial | rfl | exact rfl | refine And.intro ?_ ?_))
      · simp only [wkT, wkB, wkB1, subV, subVs, subD, subB, lkN_n, lkN_c, lkT_n, lkT_c, lkB_n, lkB_c, if_true, if_false, reduceIte, Nat.reduceEqDiff, true_and, and_true, and_self, inT, ofA]
  · obtain rfl : i = j := by omega
    have hd := ged (Nat.le_refl i)
    have hlb : lbE l no = i := lbE_of hjn hlo (fun h => hhi i (Nat.le_refl _) h)
    rcases Nat.lt_or_ge i l.length with hl1 | hl1
    · have hd2 := ltd hl1
      repeat' (first
        | (with_reducible refine aw_seq ?_)
        | ((with_reducible refine twoG_intro ?_ ?_) <;> intro hTw <;> first | (exact Bool.noConfusion hTw) | ((try simp only [hTw, Bool.not_true, Bool.not_false, Bool.true_and, Bool.false_and, Bool.and_true, Bool.and_false, Bool.true_or, Bool.false_or, Bool.or_true, Bool.or_false]); (first | (guard_hyp hTw : true = true; clear hTw) | (guard_hyp hTw : false = false; clear hTw) | (revert hTw; intro _))))
        | ((with_reducible refine two_intro ?_ ?_) <;> intro hTw <;> first | (exact Bool.noConfusion hTw) | ((first | (guard_hyp hTw : true = true; clear hTw) | (guard_hyp hTw : false = false; clear hTw) | (revert hTw; intro _))))
        | ((with_reducible refine And.intro ?_ ?_); (focus (first | omega | rfl | decide | grind)))
        | (with_reducible refine aw_block ?_)
        | (with_reducible refine aw_scope ?_)
        | ((first
            | ((with_reducible refine aw_regionA T_ok ?_ ?_); (focus kernel_rfl))
            | ((with_reducible refine aw_drawnA T_ok ?_ ?_ ?_ ?_); (focus kernel_rfl); (focus kernel_rfl); (focus kernel_rfl))
            | ((with_reducible refine callK_intro (gadd1_spec _ no (hid' i) hno) (by with_unfolding_all rfl) ?_ ?_); (focus kernel_rfl))
            | ((with_reducible refine callI_spec (gadd1_spec _ no (hid' i) hno) (by with_unfolding_all rfl) ?_ ?_ ?_); (focus kernel_rfl); (focus kernel_rfl))
            | (with_reducible refine aw_label ?_)
            | ((with_reducible refine aw_rfM ?_ ?_); (focus kernel_rfl))
            | (with_reducible refine aw_skip ?_)
            | (with_reducible refine aw_exit ?_)
            | ((with_reducible refine aw_condM ?_ ?_); (focus kernel_rfl))
            | (with_reducible refine aw_ret ?_)
          ); simp only [↓rwp.eq_def, ↓sop.eq_def, ↓slotK.eq_def, inV, shT, unT, inQ, rfQ, rfEnd, resOf, pickT, setP, ydA, ydQ, rowW, vD, fillV,  ↓gop.eq_def, ↓hop.eq_def, ↓hopH.eq_def, ↓hwp.eq_def, ↓ldV.eq_def, ↓ldK.eq_def, ↓ixK.eq_def, ↓addOff.eq_def, ↓exK.eq_def, ↓notK.eq_def, ↓pickK.eq_def, ↓iop2.eq_def, ↓binK.eq_def, ↓eqop.eq_def, icells, ↓iop.eq_def, ↓cutK.eq_def, ↓lenK.eq_def, ↓lenM.eq_def, tyInt, ↓lookK.eq_def, ↓mpK.eq_def, keyV, allI, fitK, lkM, upM, dlM, kq, ↓cvK.eq_def, ↓mmK.eq_def, ↓biK.eq_def, ↓stK.eq_def, ↓apK.eq_def, ↓apD.eq_def, ↓apS.eq_def, nxt, put, setT, setB, delB, lkT_n, lkT_c, lkB_n, lkB_c, ev, ofC, inT, ofA, ofRet, dV_n, dV_c, getD_enc, toDs_dV, List.head?_cons, List.length_map, Option.toArray_some, Option.toArray_none, Int.toNat_natCast, slOf, TyK.agg, vcells, splice, pickOps, zOf, strip, stripP, gOf, allP, rowV, toDs, toD, toA, toAs, headOps, tailOps, isT, addN, Op.operands, Call.operands, List.map_cons, List.map_nil, List.drop_zero, List.drop_succ_cons, List.take_succ_cons, List.take_zero, List.length_cons, List.length_nil, List.getElem?_cons_zero, List.getElem?_cons_succ, List.getElem?_toArray, Option.bind_some, Option.map_some, Option.map_none, List.append_nil, List.nil_append, List.cons_append, if_true, if_false, reduceIte, Nat.reduceEqDiff, Nat.reduceAdd, Nat.reduceSub, Int.reduceToNat, Nat.reduceLeDiff, Nat.reduceLT, and_false, and_self, Nat.zero_add, Nat.add_zero, reduceCtorEq, Option.getD_some, Option.getD_none, Option.isSome_some, Option.isSome_none, forall_const, true_and, and_true, true_implies, Bool.true_and, Bool.false_and, Bool.and_true, Bool.and_false, Bool.true_or, Bool.false_or, Bool.or_true, Bool.or_false, beq_self_eq_true, zipM, zcells, Value.cells, Value.oneCell', List.toList_toArray, Array.toList_append, Bool.not_not, List.cons.injEq, Int.reduceEq, eq_self, false_and, Bool.not_true, Bool.not_false, ne_eq, not_false_eq_true, imp_self, implies_true, av_bt, av_bf, av_and, av_or, av_nf, av_tt, av_n1, av_n2, av_t1, av_tp, retQ, retL, resV, RetV, RetOk, SubL, entD_len, entD_take, entD_hd, entD_ln, entD_ic, entD_d1, entD_d2, entD_d3, entD_d4, entD_d5, entD_d6, entD_d7, ty_39, ty_3, ty_22, ty_4, ty_91, hd, hd2]; try simp (disch := omega) only [av_w, av_t1, av_tp, Int.toNat_natCast]))
      refine ⟨Sub.of_eq (congrArg aI (by rw [hlb])), Sub.of_eq (congrArg aB ?_)⟩
      rw [foundE, hlb, decide_eq_true hl1, Bool.true_and, Bool.eq_iff_iff]
      simp only [beq_iff_eq]
      omega
    · have hd2 := ged hl1
      repeat' (first
        | (with_reducible refine aw_seq ?_)
        | ((with_reducible refine twoG_intro ?_ ?_) <;> intro hTw <;> first | (exact Bool.noConfusion hTw) | ((try simp only [hTw, Bool.not_true, Bool.not_false, Bool.true_and, Bool.false_and, Bool.and_true, Bool.and_false, Bool.true_or, Bool.false_or, Bool.or_true, Bool.or_false]); (first | (guard_hyp hTw : true = true; clear hTw) | (guard_hyp hTw : false = false; clear hTw) | (revert hTw; intro _))))
        | ((with_reducible refine two_intro ?_ ?_) <;> intro hTw <;> first | (exact Bool.noConfusion hTw) | ((first | (guard_hyp hTw : true = true; clear hTw) | (guard_hyp hTw : false = false; clear hTw) | (revert hTw; intro _))))
        | ((with_reducible refine And.intro ?_ ?_); (focus (first | omega | rfl | decide | grind)))
        | (with_reducible refine aw_block ?_)
        | (with_reducible refine aw_scope ?_)
        | ((first
            | ((with_reducible refine aw_regionA T_ok ?_ ?_); (focus kernel_rfl))
            | ((with_reducible refine aw_drawnA T_ok ?_ ?_ ?_ ?_); (focus kernel_rfl); (focus kernel_rfl); (focus kernel_rfl))
            | (with_reducible refine aw_label ?_)
            | ((with_reducible refine aw_rfM ?_ ?_); (focus kernel_rfl))
            | (with_reducible refine aw_skip ?_)
            | (with_reducible refine aw_exit ?_)
            | ((with_reducible refine aw_condM ?_ ?_); (focus kernel_rfl))
            | (with_reducible refine aw_ret ?_)
          ); simp only [↓rwp.eq_def, ↓sop.eq_def, ↓slotK.eq_def, inV, shT, unT, inQ, rfQ, rfEnd, resOf, pickT, setP, ydA, ydQ, rowW, vD, fillV,  ↓gop.eq_def, ↓hop.eq_def, ↓hopH.eq_def, ↓hwp.eq_def, ↓ldV.eq_def, ↓ldK.eq_def, ↓ixK.eq_def, ↓addOff.eq_def, ↓exK.eq_def, ↓notK.eq_def, ↓pickK.eq_def, ↓iop2.eq_def, ↓binK.eq_def, ↓eqop.eq_def, icells, ↓iop.eq_def, ↓cutK.eq_def, ↓lenK.eq_def, ↓lenM.eq_def, tyInt, ↓lookK.eq_def, ↓mpK.eq_def, keyV, allI, fitK, lkM, upM, dlM, kq, ↓cvK.eq_def, ↓mmK.eq_def, ↓biK.eq_def, ↓stK.eq_def, ↓apK.eq_def, ↓apD.eq_def, ↓apS.eq_def, nxt, put, setT, setB, delB, lkT_n, lkT_c, lkB_n, lkB_c, ev, ofC, inT, ofA, ofRet, dV_n, dV_c, getD_enc, toDs_dV, List.head?_cons, List.length_map, Option.toArray_some, Option.toArray_none, Int.toNat_natCast, slOf, TyK.agg, vcells, splice, pickOps, zOf, strip, stripP, gOf, allP, rowV, toDs, toD, toA, toAs, headOps, tailOps, isT, addN, Op.operands, Call.operands, List.map_cons, List.map_nil, List.drop_zero, List.drop_succ_cons, List.take_succ_cons, List.take_zero, List.length_cons, List.length_nil, List.getElem?_cons_zero, List.getElem?_cons_succ, List.getElem?_toArray, Option.bind_some, Option.map_some, Option.map_none, List.append_nil, List.nil_append, List.cons_append, if_true, if_false, reduceIte, Nat.reduceEqDiff, Nat.reduceAdd, Nat.reduceSub, Int.reduceToNat, Nat.reduceLeDiff, Nat.reduceLT, and_false, and_self, Nat.zero_add, Nat.add_zero, reduceCtorEq, Option.getD_some, Option.getD_none, Option.isSome_some, Option.isSome_none, forall_const, true_and, and_true, true_implies, Bool.true_and, Bool.false_and, Bool.and_true, Bool.and_false, Bool.true_or, Bool.false_or, Bool.or_true, Bool.or_false, beq_self_eq_true, zipM, zcells, Value.cells, Value.oneCell', List.toList_toArray, Array.toList_append, Bool.not_not, List.cons.injEq, Int.reduceEq, eq_self, false_and, Bool.not_true, Bool.not_false, ne_eq, not_false_eq_true, imp_self, implies_true, av_bt, av_bf, av_and, av_or, av_nf, av_tt, av_n1, av_n2, av_t1, av_tp, retQ, retL, resV, RetV, RetOk, SubL, entD_len, entD_take, entD_hd, entD_ln, entD_ic, entD_d1, entD_d2, entD_d3, entD_d4, entD_d5, entD_d6, entD_d7, ty_39, ty_3, ty_22, ty_4, ty_91, hd, hd2]; try simp (disch := omega) only [av_w, av_t1, av_tp, Int.toNat_natCast]))
      refine ⟨Sub.of_eq (congrArg aI (by rw [hlb])), Sub.of_eq (congrArg aB ?_)⟩
      rw [foundE, hlb, decide_eq_false (by omega), Bool.false_and]
end Go.Proofs.Ytfmefdeldgmhpaa

namespace Go.Proofs.Ytfmefdeldgmhpaa
set_option linter.unusedSimpArgs false
set_option linter.unusedVariables false
open Go.ChangeShapes Go.WideShapes Go.ChangeAt Go.RowKit

theorem trodAll_below {H : Type} {enc : TypeId × Value → H} {P : Program} (hl : laidOutB P = true) {W W' : World} (hb : Below W.heap.size W W') {sp : Nat → Bool} :
    ∀ {ts : List TypeId} {vs : List Value} {ds : List (DataW H)} {ps : List MemPlace}, (∀ t ∈ ts, P.readableRec t = true ∧ t < P.types.size) → (∀ x ∈ ps, x.block < W.heap.size) → (∀ x ∈ ps, sp x.block = true) →
      DataW.TrodAll enc P W 0 (fun _ => true) true ts vs ds ps → DataW.TrodAll enc P W' 0 sp true ts vs ds ps
  | [], _, _, _, _, _, _, h => by
    obtain ⟨rfl, rfl, rfl⟩ := trodAll_nil h
    exact rfl
  | t :: ts, _, _, _, hr, hlt, hsp, h => by
    obtain ⟨v, vs1, d, ds1, a, b, rfl, rfl, rfl, h1, h2⟩ := trodAll_cons h
    refine ⟨a, b, ?_, trodAll_below hl hb (fun u hu => hr u (List.mem_cons_of_mem _ hu)) (fun x hx => hlt x (by simp [hx])) (fun x hx => hsp x (by simp [hx])) h2, rfl⟩
    exact WideElems.Trod_stays hl (hr t (by simp)).1 (hr t (by simp)).2 h1 (fun x hx => hb.same (hlt x (by simp [hx]))) (fun x hx => hsp x (by simp [hx]))

/-- the post of a law that answers true and has only read -/
theorem post_read {H : Type} {enc : TypeId × Value → H} {P : Program} {f : Func} {s : ChangeSpec} {fresh handsOn again : Bool} {W W' : World} {args : Array Value} {ds : List (DataW H)} {before : List MemPlace} {tb : TypeId}
    (hl : laidOutB P = true) (hs : s.vars = []) (hr : f.resultTypes = #[tb]) (htb : P.underlying tb = some .bool)
    (hts : (f.params.toList.all fun t => P.readableRec t && decide (t < P.types.size)) = true)
    (hfn : s.fn H (ds ++ []) = { results := [.lit (.bool true)], args := ds })
    (hW : DataW.Whole enc P f.params.toList s.vars false W args.toList ds [] before) (hb : Below W.heap.size W W') :
    s.post enc P f false fresh handsOn again W args (.bool true) W' := by
  have hW0 := hW
  have hlt : ∀ p ∈ before, p.block < W.heap.size := fun p hp => hW.lt p hp
  have hold : ∀ p ∈ before, (fun b => decide (b < W.heap.size)) p.block = true := fun p hp => by simpa using hlt p hp
  rw [hs] at hW
  obtain ⟨p, q, hA, hV, rfl, hz, hn⟩ := hW
  obtain ⟨_, rfl⟩ := trodVars_none hV
  rw [List.append_nil] at hlt hold hz hn
  have hts' : ∀ t ∈ f.params.toList, P.readableRec t = true ∧ t < P.types.size := fun t ht => by
    have := List.all_eq_true.1 hts t ht
    simpa using this
  have hargs : ∀ sp : Nat → Bool, (∀ x ∈ p, sp x.block = true) → DataW.TrodAll enc P W' 0 sp true f.params.toList args.toList (s.fn H (ds ++ [])).args p := fun sp hsp => by
    rw [hfn]
    exact trodAll_below hl hb hts' hlt hsp hA
  have hres : ∀ (b : Nat) (sp : Nat → Bool) (hd : Bool), DataW.TrodAll enc P W' b sp hd f.resultTypes.toList ((Value.bool true).resultList f.resultTypes.size) (s.fn H (ds ++ [])).results [] := fun b sp hd => by
    rw [hfn, hr]
    exact trodAll_cons_mk (shut_bool htb _) trodAll_mk0
  have hvars : ∀ sp : Nat → Bool, DataW.TrodVars enc P W' sp s.vars (s.fn H (ds ++ [])).vars [] := fun sp => by
    rw [hfn, hs]
    exact rfl
  have hok : ∀ (j : Nat) (t : TypeId) (r : Value), f.resultTypes[j]? = some t → ((Value.bool true).resultList f.resultTypes.size)[j]? = some r → Value.okWide P W' .any 0 t r :=
    ok_one hr rfl (okWide_bool_mk htb _)
  refine ⟨ds, [], p ++ [], [], p, [], hW0, hres _ _ _, hargs _ hold, hvars _, World.keptBut_mono (fun x hx => ⟨hx, ?_⟩) (hb.frame (· ∈ p ++ [])), fun _ => ?_⟩
  · simpa using hx
  · refine ⟨hok, _, _, ([] ++ p) ++ [], ⟨[] ++ p, [], trodAll_append (hargs _ (fun _ _ => rfl)) (hres _ _ _), hvars _, rfl, ?_, ?_⟩, ?_⟩
    · intro b off hp
      have hp' : MemPlace.cell b off ∈ p := by simpa using hp
      rw [hb.frozen (p := ⟨b, off, none⟩) (hlt _ hp')]
      exact hz b off hp'
    · intro ha
      cases ha
    · intro x hx _
      simpa using hx

theorem has_lt {P : Program} {w : World} {r : Reach} {base : Nat} {a : Addr} {e : TypeId} {n : Nat} (h : w.has P r base a e n) : a.spot = none ∧ a.block < w.heap.size := by
  obtain ⟨_, h1, row, cells, h2, _⟩ := h
  refine ⟨h1, ?_⟩
  unfold World.shape? at h2
  cases hh : w.heap[a.block]? with
  | none => rw [hh] at h2; cases h2
  | some o => exact (Array.getElem?_eq_some_iff.1 hh).1
end Go.Proofs.Ytfmefdeldgmhpaa

namespace Go.Proofs.Ytfmefdeldgmhpaa
open Go.RowKit Go.Lib
set_option linter.unusedVariables false
set_option linter.unusedSimpArgs false
section
variable {P : Program}
theorem run_copy_rowN (w : World) (dT sT ty elem : TypeId) (s g o dLen dCap : Nat) (a : Addr) (sLen sCap : Nat) (cur : Array Value) (t : TypeId) (cs : List Value)
    (hu : P.underlying dT = some (.slice elem)) (hs : (P.info? elem).map (·.size) = some s)
    (hg : w.heap[g]? = some (.cells cur t (0, 0))) (hn : cs.length = Nat.min sLen dLen * s)
    (hsrc : ∀ j v, cs[j]? = some v → w.cell? (a.add j) = some v) (hfit : o + cs.length ≤ cur.size) (h1 : ∀ v ∈ cs, v.oneCell' = true) :
    (Builtin.copy_ #[dT, sT] ty #[.slice (some ⟨g, o, none⟩) dLen dCap, .slice (some a) sLen sCap]).run P w =
      .ok (goInt (Nat.min sLen dLen)) (w.setRow g (cur.toList.take o ++ cs ++ cur.toList.drop (o + cs.length)).toArray) := by
  have hl := run_loadCells_list (P := P) w a cs hsrc
  have hst := run_storeCells_at P g o t cs 0 cur w hg (by simpa using hfit) h1
  cases hq : P.info? elem with
  | none => simp [hq] at hs
  | some i =>
    have hi : i.size = s := by simpa [hq] using hs
    simp [Builtin.copy_, run_underlying hu, Builtin.lenOf, Builtin.firstCells, sizeOf, typeInfo, hq, hi, ← hn, hl, hst]
theorem splice_row (cur : List Value) (p q : Nat) (vs : List Value) (s : Nat) (hvs : vs.length = s) (hp : p ≤ q) (hq : q + s ≤ cur.length) :
    (((cur.take (p + s) ++ (cur.take q).drop p ++ cur.drop (p + s + ((cur.take q).drop p).length)).take p ++ vs ++ (cur.take (p + s) ++ (cur.take q).drop p ++ cur.drop (p + s + ((cur.take q).drop p).length)).drop (p + vs.length))) = cur.take p ++ vs ++ (cur.take q).drop p ++ cur.drop (q + s) := by
  have h1 : ((cur.take q).drop p).length = q - p := by rw [List.length_drop, List.length_take]; omega
  rw [h1, hvs, show p + s + (q - p) = q + s by omega]
  have h2 : (cur.take (p + s)).length = p + s := by rw [List.length_take]; omega
  rw [List.append_assoc (cur.take (p + s)), List.take_append_of_le_length (by omega), List.take_take, Nat.min_eq_left (by omega)]
  rw [List.drop_append_of_le_length (by omega)]
  have h3 : (cur.take (p + s)).drop (p + s) = [] := by rw [List.drop_eq_nil_iff]; omega
  rw [h3]
  simp
end
set_option maxRecDepth 100000 in
set_option maxHeartbeats 4000000 in
/-- there is room, and i is not the end: in place -/
theorem insE_shift (b n c i vb vc : Nat) (cur : Array Value) (vs : List Value) (w : World) (hi : i < n) (hroom : n + 1 ≤ c) (hc63 : c ≤ 9223372036854775807) (hvb : vb ≠ b)
    (hb : w.heap[b]? = some (.cells cur 39 (0, 0))) (hcs : cur.size = c * 8) (hvl : vs.length = 8)
    (hvs : ∀ j v, vs[j]? = some v → w.cell? ⟨vb, j, none⟩ = some v) (h1c : ∀ v ∈ cur.toList.take (n * 8), v.oneCell' = true) (h1v : ∀ v ∈ vs, v.oneCell' = true)
    (tA : TypeId) (kA : Nat) (hsa : w.shape? vb = some (tA, kA)) (hfa : w.frozen? ⟨vb, 0, none⟩ = false) (hfe : w.frozen? ⟨vb, kA, none⟩ = false) :
    Calls Try.prog 56 #[.slice (some ⟨b, 0, none⟩) n c, .int .i64 i, .slice (some ⟨vb, 0, none⟩) 1 vc] w fun e w' =>
      e = .returned (.slice (some ⟨b, 0, none⟩) (n + 1) c) ∧ w' = w.drew.setRow b (cur.toList.take (i * 8) ++ vs ++ (cur.toList.take (n * 8)).drop (i * 8) ++ cur.toList.drop ((n + 1) * 8)).toArray := by
  have hz2 : ¬ ((i : Int) = (n : Int)) := by omega
  have hw1 : IntKind.i64.wrap ((i : Int) + 1) = (i : Int) + 1 := by rw [IntKind.wrap_i64]; omega
  have hb1 : (0 : Int) ≤ (i : Int) + 1 := by omega
  have hin : i ≤ n := by omega
  have htn : ((i : Int) + 1).toNat = i + 1 := by omega
  have hb2 : ¬ (c = i + 1) := by omega
  have hb3 : (i : Int) ≤ (n : Int) + 1 := by omega
  have hb4 : ¬ (c = i) := by omega
  have hsb : w.shape? b = some (39, c * 8) := by simp [World.shape?, hb, hcs]
  have hsE : (Try.prog.info? 39).map (·.size) = some 8 := by kernel_rfl
  obtain ⟨j, hj, hjs⟩ : ∃ j, Try.prog.info? 39 = some j ∧ j.size = 8 := by
    cases hq : Try.prog.info? 39 with
    | none => rw [hq] at hsE; cases hsE
    | some j => rw [hq] at hsE; exact ⟨j, rfl, by simpa using hsE⟩
  have hov : ∀ lb cb, (callFunc 65 #[.slice (some ⟨vb, 0, none⟩) 1 vc, .slice (some ⟨b, (i + 1) * 8, none⟩) lb cb]).run Try.prog w = .ok (.value (.bool false)) w := fun lb cb => by
    rw [run_callFunc_extern Try.func65 (by kernel_rfl) (by kernel_rfl) (by kernel_rfl) (e := Extern.SlicesOverlaps.overlaps #[22, 22] #[4]) (by kernel_rfl),
      Lib.run_overlaps_apart w 22 4 39 Try.underlying22 8 (fun w => by simp [Go.sizeOf, typeInfo, hj, hjs]) ⟨vb, 0, none⟩ ⟨b, (i + 1) * 8, none⟩ 1 vc lb cb hvb tA 39 kA (c * 8) hsa hsb (by omega) hfa hfe]
    rfl
  have hlen : cur.toList.length = c * 8 := by simpa using hcs
  have hln : ((cur.toList.take (n * 8)).drop (i * 8)).length = (n - i) * 8 := by
    rw [List.length_drop, List.length_take, hlen, Nat.min_eq_left (by omega), Nat.sub_mul]
  have hcell : ∀ j v, ((cur.toList.take (n * 8)).drop (i * 8))[j]? = some v → w.drew.cell? ⟨b, i * 8 + j, none⟩ = some v := fun j v hj => by
    have hj1 := (List.getElem?_eq_some_iff.1 hj).1
    rw [List.getElem?_drop, List.getElem?_take_of_lt (by rw [hln] at hj1; omega)] at hj
    have : w.drew.heap[b]? = some (.cells cur 39 (0, 0)) := hb
    simp only [World.cell?, this]
    simpa using hj
  obtain ⟨c1, hc1⟩ : ∃ c1 : Array Value, c1 = (cur.toList.take ((i + 1) * 8) ++ (cur.toList.take (n * 8)).drop (i * 8) ++ cur.toList.drop ((i + 1) * 8 + ((cur.toList.take (n * 8)).drop (i * 8)).length)).toArray := ⟨_, rfl⟩
  have hcp1 : ∀ ty dc sc, (Builtin.copy_ #[22, 22] ty #[.slice (some ⟨b, (i + 1) * 8, none⟩) (n - i) dc, .slice (some ⟨b, i * 8, none⟩) (n + 1 - i) sc]).run Try.prog w.drew = .ok (goInt (Nat.min (n + 1 - i) (n - i))) (w.drew.setRow b c1) := fun ty dc sc => by
    rw [hc1]
    exact run_copy_rowN w.drew 22 22 ty 39 8 b ((i + 1) * 8) (n - i) dc ⟨b, i * 8, none⟩ (n + 1 - i) sc cur 39 _ Try.underlying22 hsE hb (by rw [hln]; simp only [Nat.min_def]; split <;> omega) (fun j v hj => by rw [Addr.add_lit]; exact hcell j v hj) (by rw [hln, hcs]; omega) (fun v hv => h1c v (List.mem_of_mem_drop hv))
  obtain ⟨W1, hW1⟩ : ∃ W1, W1 = w.drew.setRow b c1 := ⟨_, rfl⟩
  rw [← hW1] at hcp1
  have hbl : b < w.heap.size := (Array.getElem?_eq_some_iff.1 hb).1
  have hg1 : W1.heap[b]? = some (.cells c1 39 (0, 0)) := by rw [hW1]; exact setRow_heap w.drew b cur c1 _ _ hb
  have hc1s : c1.size = c * 8 := by rw [hc1]; simp [hln, hlen]; omega
  have hvs1 : ∀ j v, vs[j]? = some v → W1.cell? ⟨vb, j, none⟩ = some v := fun j v hj => by
    rw [hW1]
    exact cell_kept (w := w) (setRow_other w.drew b vb c1 hvb) (hvs j v hj)
  have hcp2 : ∀ ty dc, (Builtin.copy_ #[22, 22] ty #[.slice (some ⟨b, i * 8, none⟩) (n + 1 - i) dc, .slice (some ⟨vb, 0, none⟩) 1 vc]).run Try.prog W1 = .ok (goInt (Nat.min 1 (n + 1 - i))) (W1.setRow b (c1.toList.take (i * 8) ++ vs ++ c1.toList.drop (i * 8 + vs.length)).toArray) := fun ty dc =>
    run_copy_rowN W1 22 22 ty 39 8 b (i * 8) (n + 1 - i) dc ⟨vb, 0, none⟩ 1 vc c1 39 vs Try.underlying22 hsE hg1 (by rw [hvl]; simp only [Nat.min_def]; split <;> omega) (fun j v hj => by rw [Addr.add_lit, Nat.zero_add]; exact hvs1 j v hj) (by rw [hvl, hc1s]; omega) h1v
  have hfin : W1.setRow b (c1.toList.take (i * 8) ++ vs ++ c1.toList.drop (i * 8 + vs.length)).toArray = w.drew.setRow b (cur.toList.take (i * 8) ++ vs ++ (cur.toList.take (n * 8)).drop (i * 8) ++ cur.toList.drop ((n + 1) * 8)).toArray := by
    have h := splice_row cur.toList (i * 8) (n * 8) vs 8 hvl (by omega) (by rw [hlen]; omega)
    rw [hW1, setRow_setRow, hc1, show (i + 1) * 8 = i * 8 + 8 by omega, show (n + 1) * 8 = n * 8 + 8 by omega]
    simp only [List.toList_toArray]
    rw [h]
  rw [hfin] at hcp2
  have mixed : Try.prog.follows .mixedOrders = true := by kernel_rfl
  generalize w.drew.setRow b (cur.toList.take (i * 8) ++ vs ++ (cur.toList.take (n * 8)).drop (i * 8) ++ cur.toList.drop ((n + 1) * 8)).toArray = W2 at hcp2 ⊢
  clear hcell hvs1 hfin hW1 hc1 hc1s hg1
  go_enter Try.func56, Try.ntmps56
  go_wp2_with (simp only [hov])
  go_region_law_o (refine step_copy_runI rfl _ _ 22 22 rfl _ _ (by simp [Act.eval, Act.put]) (by simp [Act.eval, Act.put]) (hcp1 _ _ _) ?_)
  go_wp2_with (at_builtin; refine wpList_copy_runI _ rfl _ _ 22 22 rfl _ _ rfl rfl (hcp2 _ _) ?_)
  go_ret
  exact ⟨rfl, rfl⟩
end Go.Proofs.Ytfmefdeldgmhpaa

namespace Go.Proofs.Ytfmefdeldgmhpaa
open Go.RowKit Go.Lib
set_option linter.unusedVariables false
set_option linter.unusedSimpArgs false
theorem elemE : Elem Try.prog 22 39 (.agg (Array.replicate 8 (.int .i64 0))) 8 64 :=
  ⟨Try.underlying22, by kernel_rfl, by rfl, by decide, by intro h; cases h⟩
theorem rr_source {F : Ft} {w : World} {sz : Nat} {es : List (List D)} {ad : Addr} (h : RR F w sz (some ad) es 0) : ∃ news, RDL F w es.flatten news ∧ news.length = es.length * sz ∧ (∀ u ∈ news, u.oneCell' = true) ∧ (∀ x ∈ es, x.length = sz) ∧ ∀ j u, news[j]? = some u → w.cell? (ad.add j) = some u := by
  cases es with
  | nil => exact ⟨[], by simp [RDL], by simp, by simp, by simp, by simp⟩
  | cons e es =>
    have h' := h
    simp only [RR] at h'
    obtain ⟨⟨b, o, us, e1, _⟩, _⟩ := h'
    cases e1
    obtain ⟨us, h1, h2, h3, h4, h5⟩ := h.cells
    refine ⟨us, h1, h2, h3, h4, fun j u hj => ?_⟩
    have := (h5 j u hj).2
    rw [Nat.add_zero] at this
    rw [Addr.add_lit]
    exact this
theorem run_eql_nil {P : Program} {t e : TypeId} (ht : P.underlying t = some (.slice e)) (a : Option Addr) (n c : Nat) (w : World) : (binOp .eql t (.slice a n c) (.slice none 0 0)).run P w = .ok (.bool a.isNone) w := by
  have he : (Op.equal t (.slice a n c) (.slice none 0 0)).run P w = .ok a.isNone w := by
    have gen : ∀ d, (Op.equalIn (d + 1) t (.slice a n c) (.slice none 0 0)).run P w = .ok a.isNone w := fun d => by cases a <;> simp [Op.equalIn, run_underlying ht]
    exact gen _
  simp [binOp, he]
set_option maxRecDepth 100000 in
set_option maxHeartbeats 4000000 in
theorem cloneE_spec (es : List (List D)) (dd0 d0 : List D) (hes : es.length ≤ 1099511627776) : SpecO Try.prog 57 [.one (.sl 8 dd0 es)] 39 8 d0 es := by
  intro F w us hF ha
  simp only [RAL] at ha
  obtain ⟨u, r, rfl, hu, rfl⟩ := ha
  simp only [RA, RD] at hu
  obtain ⟨a, cap, rfl, hcap, hmax, hrr⟩ := hu
  cases a with
  | none =>
    have hn := hrr.none_nil
    subst hn
    go_enter Try.func57, Try.ntmps57
    go_wp2_with (simp only [run_eql_nil Try.underlying22])
    go_ret
    exact ⟨_, [], rfl, Below.refl _ _, World.ownsRow_nil _ _ _ _, by simp [RDL], by simp, by simp, by simp, fun b h => by cases h⟩
  | some ad =>
    obtain ⟨news, n1, n2, n3, n4, n5⟩ := rr_source hrr
    have hone : ∀ W : World, (∀ x u, w.cell? x = some u → W.cell? x = some u) → Source Try.prog 22 22 8 W (.slice (some ad) es.length cap) es.length news := fun W hW =>
      Source.cells ad _ cap news rfl n2 (fun j u hj => hW _ _ (n5 j u hj)) n3
    clear n5
    go_enter Try.func57, Try.ntmps57
    go_wp2_with (first
      | simp only [run_eql_nil Try.underlying22]
      | (at_builtin; refine wpList_app rfl _ _ rfl elemE w.heap.size _ 0 [] rfl (NoneAt.own ⟨_, rfl, Nat.le_refl _, Box.new _ _ _⟩) _ _ news rfl (hone _ (fun x u hx => by rw [World.cell?_alloc_lt _ _ _ (World.block_lt_of_cell? _ _ hx)]; exact hx)) (.inl rfl) (by unfold maxLen; omega) (by omega) (by simp) (fun v' w' hg => ?_)))
    go_ret
    rw [Nat.zero_add, List.nil_append] at hg
    have hb1 : Below w.heap.size w (w.alloc (.cells #[] 39)) := (Below.refl _ _).alloc (Nat.le_refl _) _
    have hg' := hg.behind hb1
    have hb := hg'.below (B := w.heap.size) (Nat.le_refl _) (fun g e => by cases e; exact Nat.le_refl _)
    refine ⟨_, news, rfl, hb, ⟨hg.own.1, hg.own.2.imp id (fun ⟨g, c', cur, e1, _, e3⟩ => ⟨g, c', cur, e1, Nat.zero_le _, e3⟩)⟩, RDL.mono (Ft.le_refl _) (.of_blocks (fun b o h => hb.block b (hF.1 b o h)) (fun b h => hb.block b (hF.2 b h))) _ _ n1, n3, n4, hmax, fun b h => ?_⟩
    rcases hg.own.2 with ⟨rfl, _⟩ | ⟨g, c', cur, rfl, h1, _⟩
    · cases h
    · cases h; exact h1
end Go.Proofs.Ytfmefdeldgmhpaa

namespace Go.Proofs.Ytfmefdeldgmhpaa
open Go.RowKit Go.Lib
set_option linter.unusedVariables false
set_option linter.unusedSimpArgs false
theorem zeroE_len (k : Nat) : (Builtin.zeroCells (Value.agg (Array.replicate 8 (.int .i64 0))).cells k).size = k * 8 := by
  simp [Builtin.zeroCells, Value.cells]
set_option maxHeartbeats 4000000 in
set_option maxRecDepth 100000 in
theorem insE_grow (b n c i vb vc : Nat) (cs vs : List Value) (w : World) (hi : i < n) (hnc : n ≤ c) (hroom : c < n + 1) (hbig : (n + 1) * 64 ≤ 140737488355328)
    (hcl : cs.length = n * 8) (hvl : vs.length = 8)
    (hcs : ∀ j v, cs[j]? = some v → w.cell? ⟨b, j, none⟩ = some v)
    (hvs : ∀ j v, vs[j]? = some v → w.cell? ⟨vb, j, none⟩ = some v) (h1c : ∀ v ∈ cs, v.oneCell' = true) (h1v : ∀ v ∈ vs, v.oneCell' = true) :
    Calls Try.prog 56 #[.slice (some ⟨b, 0, none⟩) n c, .int .i64 i, .slice (some ⟨vb, 0, none⟩) 1 vc] w fun e w' =>
      ∃ G cur, e = .returned (.slice (some ⟨w.heap.size, 0, none⟩) (n + 1) G) ∧ w'.heap[w.heap.size]? = some (.cells cur 39 (0, 0)) ∧ n + 1 ≤ G ∧ G ≤ maxLen ∧ cur.size = G * 8 ∧ cur.toList.take ((n + 1) * 8) = cs.take (i * 8) ++ vs ++ cs.drop (i * 8) ∧ Below w.heap.size w w' := by
  obtain ⟨i0, hi0, hz0, hzs, hzb⟩ := info_parts elemE.info
  have hz2 : ¬ ((i : Int) = (n : Int)) := by omega
  have hz3 : (c : Int) < (n : Int) + 1 := by omega
  have hsE : (Try.prog.info? 39).map (·.size) = some 8 := by kernel_rfl
  have hbw : b < w.heap.size := block_lt_of_cell (hcs 0 _ (List.getElem?_eq_getElem (by omega)))
  have hvw : vb < w.heap.size := block_lt_of_cell (hvs 0 _ (List.getElem?_eq_getElem (by omega)))
  have hkk : (n : Int) + 1 - (i : Int) = ((n + 1 - i : Nat) : Int) := by omega
  have hik : i + (n + 1 - i) = n + 1 := by omega
  have hold : (Builtin.firstCells i0.size i (.slice (some ⟨b, 0, none⟩) i c)).run Try.prog w.drew = .ok (cs.take (i * 8)).toArray w.drew := by
    rw [hzs]
    exact run_firstCells_some w.drew 8 i ⟨b, 0, none⟩ i c (cs.take (i * 8)) (by rw [List.length_take]; omega) (fun j v hj => by
      rw [Addr.add_lit, Nat.zero_add]
      rw [List.getElem?_take] at hj
      split at hj
      · exact hcs j v hj
      · cases hj)
  have hrz : ∀ ty, (Builtin.append_ #[22, 3] ty #[.slice (some ⟨b, 0, none⟩) i c, .int .i64 ((n : Int) + 1 - (i : Int))]).run Try.prog w =
      .ok (.slice (some ⟨w.heap.size, 0, none⟩) (n + 1) (grownCap w (n + 1) c 39)) (w.drew.alloc (.cells ((cs.take (i * 8)).toArray ++ Builtin.zeroCells (Value.agg (Array.replicate 8 (.int .i64 0))).cells (n + 1 - i) ++ Builtin.zeroCells (Value.agg (Array.replicate 8 (.int .i64 0))).cells (grownCap w (n + 1) c 39 - (n + 1))) 39)) := fun ty => by
    have h := Lib.run_append_grow_zeros w 22 3 ty 39 i0 _ .i64 .i64 Try.underlying22 Try.underlying3 hi0 hz0 (some ⟨b, 0, none⟩) i c (cs.take (i * 8)) hold (n + 1 - i) (by omega) (by omega) (by omega) (by omega) (by rw [hzb]; omega) (by rw [hzb, hik]; exact growslice_fits hroom hbig)
    rw [hik] at h
    rw [hkk]
    exact h
  obtain ⟨G, hG⟩ : ∃ G, G = grownCap w (n + 1) c 39 := ⟨_, rfl⟩
  obtain ⟨ROW, hROW⟩ : ∃ ROW : Array Value, ROW = (cs.take (i * 8)).toArray ++ Builtin.zeroCells (Value.agg (Array.replicate 8 (.int .i64 0))).cells (n + 1 - i) ++ Builtin.zeroCells (Value.agg (Array.replicate 8 (.int .i64 0))).cells (G - (n + 1)) := ⟨_, rfl⟩
  rw [← hG] at hrz
  rw [← hROW] at hrz
  have hGn : n + 1 ≤ G := by rw [hG]; exact grownCap_ge w _ _ _
  have hGm : G ≤ maxLen := by rw [hG]; exact grownCap_le_maxLen w (n + 1) c 39 (by unfold maxLen; omega)
  have hG63 : G ≤ 9223372036854775807 := by
    have := hGm
    unfold maxLen at this
    omega
  have hRs : ROW.size = G * 8 := by
    rw [hROW]
    simp only [Array.size_append, zeroE_len, List.size_toArray, List.length_take, hcl]
    omega
  have hRt : ROW.toList.take (i * 8) = cs.take (i * 8) := by
    rw [hROW]
    simp only [Array.toList_append, List.append_assoc]
    rw [List.take_append_of_le_length (by rw [List.length_take]; omega), List.take_take, Nat.min_self]
  have hRl : ROW.toList.length = G * 8 := by simpa using hRs
  obtain ⟨W1, hW1⟩ : ∃ W1, W1 = w.drew.alloc (.cells ROW 39) := ⟨_, rfl⟩
  rw [← hW1] at hrz
  have hg1 : W1.heap[w.heap.size]? = some (.cells ROW 39 (0, 0)) := by rw [hW1]; exact heap_alloc_new w.drew _
  have hbelow1 : Below w.heap.size w W1 := by
    rw [hW1]
    have h := (Below.refl w.heap.size w.drew).alloc (Nat.le_refl _) (.cells ROW 39)
    exact ⟨h.os, h.tape, h.output, h.size, h.block⟩
  obtain ⟨c1, hc1⟩ : ∃ c1 : Array Value, c1 = (ROW.toList.take (i * 8) ++ vs ++ ROW.toList.drop (i * 8 + vs.length)).toArray := ⟨_, rfl⟩
  have hc1l : c1.toList.length = G * 8 := by
    rw [hc1]
    simp only [List.toList_toArray, List.length_append, List.length_take, List.length_drop, hRl, hvl]
    have : i * 8 + 8 ≤ G * 8 := by omega
    omega
  have hvs1 : ∀ j v, vs[j]? = some v → W1.cell? ⟨vb, j, none⟩ = some v := fun j v hj => below_cell hbelow1 (hvs j v hj)
  have hcpA : ∀ (W : World), W.heap = W1.heap → ∀ ty dc, (Builtin.copy_ #[22, 22] ty #[.slice (some ⟨w.heap.size, i * 8, none⟩) (n + 1 - i) dc, .slice (some ⟨vb, 0, none⟩) 1 vc]).run Try.prog W = .ok (goInt (Nat.min 1 (n + 1 - i))) (W.setRow w.heap.size c1) := fun W hW ty dc => by
    rw [hc1]
    exact run_copy_rowN W 22 22 ty 39 8 w.heap.size (i * 8) (n + 1 - i) dc ⟨vb, 0, none⟩ 1 vc ROW 39 vs Try.underlying22 hsE (by rw [hW]; exact hg1) (by rw [hvl]; simp only [Nat.min_def]; split <;> omega) (fun j v hj => by rw [Addr.add_lit, Nat.zero_add]; have := hvs1 j v hj; simpa [World.cell?, hW] using this) (by rw [hvl, hRs]; omega) h1v
  obtain ⟨W2, hW2⟩ : ∃ W2, W2 = W1.setRow w.heap.size c1 := ⟨_, rfl⟩
  have hg2 : W2.heap[w.heap.size]? = some (.cells c1 39 (0, 0)) := by rw [hW2]; exact setRow_heap W1 w.heap.size ROW c1 _ _ hg1
  have hcs2 : ∀ j v, cs[j]? = some v → W2.cell? ⟨b, j, none⟩ = some v := fun j v hj => by
    rw [hW2]
    exact cell_kept (w := W1) (setRow_other W1 w.heap.size b c1 (by omega)) (below_cell hbelow1 (hcs j v hj))
  have hdl : (cs.drop (i * 8)).length = (n - i) * 8 := by rw [List.length_drop, hcl, Nat.sub_mul]
  obtain ⟨c2, hc2⟩ : ∃ c2 : Array Value, c2 = (c1.toList.take ((i + 1) * 8) ++ cs.drop (i * 8) ++ c1.toList.drop ((i + 1) * 8 + (cs.drop (i * 8)).length)).toArray := ⟨_, rfl⟩
  have hcpB : ∀ (W : World), W.heap = W2.heap → ∀ ty dc sc, (Builtin.copy_ #[22, 22] ty #[.slice (some ⟨w.heap.size, (i + 1) * 8, none⟩) (n + 1 - (i + 1)) dc, .slice (some ⟨b, i * 8, none⟩) (n - i) sc]).run Try.prog W = .ok (goInt (Nat.min (n - i) (n + 1 - (i + 1)))) (W.setRow w.heap.size c2) := fun W hW ty dc sc => by
    rw [hc2]
    exact run_copy_rowN W 22 22 ty 39 8 w.heap.size ((i + 1) * 8) (n + 1 - (i + 1)) dc ⟨b, i * 8, none⟩ (n - i) sc c1 39 _ Try.underlying22 hsE (by rw [hW]; exact hg2) (by rw [hdl]; simp only [Nat.min_def]; split <;> omega) (fun j v hj => by
      rw [Addr.add_lit]
      rw [List.getElem?_drop] at hj
      have := hcs2 _ v hj
      simpa [World.cell?, hW] using this) (by rw [hdl]; have : c1.size = G * 8 := by simpa using hc1l
                                              omega) (fun v hv => h1c v (List.mem_of_mem_drop hv))
  have hc2t : c2.toList.take ((n + 1) * 8) = cs.take (i * 8) ++ vs ++ cs.drop (i * 8) := by
    have e1 : c1.toList.take ((i + 1) * 8) = cs.take (i * 8) ++ vs := by
      rw [hc1]
      simp only [List.toList_toArray]
      rw [List.take_append_of_le_length (by simp only [List.length_append, List.length_take, hRl, hvl]; omega), hRt]
      exact List.take_of_length_le (by simp only [List.length_append, List.length_take, hcl, hvl]; omega)
    rw [hc2]
    simp only [List.toList_toArray]
    rw [e1]
    have hl : (cs.take (i * 8) ++ vs ++ cs.drop (i * 8)).length = (n + 1) * 8 := by simp only [List.length_append, List.length_take, hdl, hcl, hvl]; omega
    rw [List.take_append_of_le_length (by omega)]
    exact List.take_of_length_le (by omega)
  have hc2s : c2.size = G * 8 := by
    rw [hc2]
    simp only [List.size_toArray, List.length_append, List.length_take, List.length_drop, hdl, hc1l]
    omega
  have hw1 : IntKind.i64.wrap ((i : Int) + 1) = (i : Int) + 1 := by rw [IntKind.wrap_i64]; omega
  have hb1 : (0 : Int) ≤ (i : Int) + 1 := by omega
  have hin : i ≤ n := by omega
  have htn : ((i : Int) + 1).toNat = i + 1 := by omega
  have hb3 : (i : Int) ≤ (n : Int) := by omega
  have hGi : ¬ (G = i) := by omega
  have hGim : ¬ (G = i + 1) := by omega
  have hci : ¬ (c = i) := by omega
  have hlast : ∀ W : World, W.heap = (W2.setRow w.heap.size c2).heap → W.os = w.os → W.tape = w.tape → W.output = w.output → W.heap[w.heap.size]? = some (.cells c2 39 (0, 0)) ∧ Below w.heap.size w W := fun W hW h1 h2 h3 => by
    have hsz : W1.heap.size ≤ W.heap.size := by rw [hW, hW2]; simp [World.setRow]
    refine ⟨by rw [hW]; exact setRow_heap W2 w.heap.size c1 c2 _ _ hg2, h1, h2, h3, Nat.le_trans hbelow1.size hsz, fun k hk => ?_⟩
    rw [hW, setRow_other W2 w.heap.size k c2 (by omega), hW2, setRow_other W1 w.heap.size k c1 (by omega)]
    exact hbelow1.block k hk
  clear hkk hik hold hROW hG hRs hRt hRl hc1 hc1l hvs1 hcs2 hdl hc2
  have mixed : Try.prog.follows .mixedOrders = true := by kernel_rfl
  go_enter Try.func56, Try.ntmps56
  go_wp2_with (first
    | (at_builtin; refine Lib.wpList_append_run _ rfl _ _ _ _ rfl _ _ rfl rfl _ _ (hrz _) ?_)
    | (at_builtin; refine wpList_copy_runI _ rfl _ _ 22 22 rfl _ _ rfl rfl (hcpA _ rfl _ _) ?_)
    | (at_builtin; refine wpList_copy_runI _ rfl _ _ 22 22 rfl _ _ rfl rfl (hcpB _ (by rw [hW2]; rfl) _ _ _) ?_))
  go_region_law_o (refine step_copy_runI rfl _ _ 22 22 rfl (.slice (some ⟨w.heap.size, (i + 1) * 8, none⟩) (n + 1 - (i + 1)) (G - (i + 1))) (.slice (some ⟨b, i * 8, none⟩) (n - i) (c - i)) (by simp [Act.eval, Act.put]) (by simp [Act.eval, Act.put]) (hcpB _ (by rw [hW2, hW1]; rfl) 3 (G - (i + 1)) (c - i)) ?_)
  go_wp2
  go_ret
  refine ⟨G, c2, rfl, ?_⟩
  obtain ⟨l1, l2⟩ := hlast (((w.alloc (.cells ROW 39)).drew.setRow w.heap.size c1).drew.setRow w.heap.size c2) (by rw [hW2, hW1]; rfl) rfl rfl rfl
  exact ⟨l1, hGn, hGm, hc2s, hc2t, l2⟩
/-- at the end: an append -/
theorem wpList_app3 {P : Program} {w : World} {a : Act} {ops : Array Oper} {rest : List Oper} {o : Oper} {Q : Exit → Act → World → Prop} (hgd : o.guard = none) (s x : Operand) {t e : TypeId} {z : Value} {size bytes : Nat}
    (ho : o.op = .call { callee := .builtin .append, args := #[s, x], argTypes := #[t, t] }) (E : Elem P t e z size bytes)
    (v : Value) (n : Nat) (xs : List Value) (hs : a.eval s = v) (hown : w.ownsRow 0 e size v n xs) (ad : Addr) (m c : Nat) (news : List Value) (hx : a.eval x = .slice (some ad) m c) (hl : news.length = m * size) (hnews : ∀ j u, news[j]? = some u → w.cell? (ad.add j) = some u) (h1 : ∀ u ∈ news, u.oneCell' = true)
    (h63 : n + m ≤ maxLen) (hbytes : (n + m) * bytes ≤ 140737488355328)
    (h : ∀ v' w', Grew 0 e size w v v' (n + m) (xs ++ news) w' → (∀ g, v.ownBlock = some g → v'.ownBlock = some g ∨ w'.heap[g]? = w.heap[g]?) → wpList P ops Q rest (a.put o.dst v') w') : wpList P ops Q (o :: rest) a w := by
  refine wpList_plain hgd fun _ hK => ?_
  obtain ⟨i, hi, hz, hsz, hby⟩ := info_parts E.info
  obtain ⟨v', w', hr, h2, h3⟩ := run_append_own3 (P := P) w 0 t o.type e i z size bytes E.ht hi hz hsz hby E.hzs E.pos v n xs hown ad m c news hl hnews h1 h63 hbytes (Nat.zero_le _)
  unfold Oper.wp execOp
  simp only [ho, resolve, invoke, builtin, Sem.run_bind, Sem.run_pure, Result.andThen_ok, List.map_toArray, List.map_cons, List.map_nil, hs, hx, hr]
  exact hK _ _ (h v' w' h2 h3)
set_option maxHeartbeats 4000000 in
set_option maxRecDepth 100000 in
theorem insE_end (n vb vc : Nat) (v : Value) (us vs : List Value) (w : World) (hown : w.ownsRow 0 39 8 v n us) (hbig : (n + 1) * 64 ≤ 140737488355328) (hvl : vs.length = 8)
    (hvs : ∀ j v, vs[j]? = some v → w.cell? ⟨vb, j, none⟩ = some v) (h1v : ∀ v ∈ vs, v.oneCell' = true) :
    Calls Try.prog 56 #[v, .int .i64 n, .slice (some ⟨vb, 0, none⟩) 1 vc] w fun e w' =>
      ∃ v', e = .returned v' ∧ Grew 0 39 8 w v v' (n + 1) (us ++ vs) w' ∧ ∀ g, v.ownBlock = some g → v'.ownBlock = some g ∨ w'.heap[g]? = w.heap[g]? := by
  obtain ⟨av, cv, hv, hcv⟩ := own_form hown
  have hcm : cv ≤ 9223372036854775807 := by
    rcases hown.2 with ⟨e1, _⟩ | ⟨g, cap, cur, e1, _, _, _, h5, _⟩
    · rw [hv] at e1; cases e1; omega
    · rw [hv] at e1; cases e1; unfold maxLen at h5; omega
  subst hv
  by_cases hcn : cv = n
  · subst hcn
    go_enter Try.func56, Try.ntmps56
    go_wp2_with (at_builtin; refine wpList_app3 rfl _ _ rfl elemE _ _ us rfl hown _ 1 vc vs rfl (by rw [hvl]) (fun j u hj => by rw [Addr.add_lit, Nat.zero_add]; exact hvs j u hj) h1v (by unfold maxLen; omega) hbig (fun v' w' hg hk => ?_))
    go_ret
    exact ⟨_, rfl, hg, hk⟩
  · have hcn' : ¬ n = cv := fun e => hcn e.symm
    go_enter Try.func56, Try.ntmps56
    go_wp2_with (at_builtin; refine wpList_app3 rfl _ _ rfl elemE _ n us rfl hown _ 1 vc vs rfl (by rw [hvl]) (fun j u hj => by rw [Addr.add_lit, Nat.zero_add]; exact hvs j u hj) h1v (by unfold maxLen; omega) hbig (fun v' w' hg hk => ?_))
    go_ret
    exact ⟨_, rfl, hg, hk⟩
/-- slices.Insert into a row of the call's own -/
theorem insE_any (w : World) (v xv : Value) (n i : Nat) (us vs : List Value) (hi : i ≤ n) (hbig : (n + 1) * 64 ≤ 140737488355328) (hown : w.ownsRow 0 39 8 v n us) (hox : w.ownsRow 0 39 8 xv 1 vs) (hne : v.ownBlock ≠ xv.ownBlock)
    (h1 : ∀ u ∈ us, u.oneCell' = true) (h1v : ∀ u ∈ vs, u.oneCell' = true) :
    Calls Try.prog 56 #[v, .int .i64 i, xv] w fun e w' => ∃ v', e = .returned v' ∧ Grew 0 39 8 w v v' (n + 1) (us.take (i * 8) ++ vs ++ us.drop (i * 8)) w' ∧ ∀ g, v.ownBlock = some g → v'.ownBlock = some g ∨ w'.heap[g]? = w.heap[g]? := by
  have hvl : vs.length = 8 := by have := hox.1; omega
  have hul := hown.1
  rcases hox.2 with ⟨_, h0⟩ | ⟨vb, vc, vcur, rfl, _, hvb, _, _, hvs, hvt⟩
  · omega
  have hcv : ∀ j u, vs[j]? = some u → w.cell? ⟨vb, j, none⟩ = some u := fun j u hj => by
    have := hox.cells (g := vb) rfl j u hj
    rwa [Addr.add_any, Nat.zero_add] at this
  by_cases hin : i = n
  · subst hin
    have := insE_end i vb vc v us vs w hown hbig hvl hcv h1v
    rw [List.take_of_length_le (by omega), List.drop_eq_nil_of_le (by omega), List.append_nil]
    exact this
  rcases hown.2 with ⟨_, h0⟩ | ⟨b, c, cur, rfl, _, hb, hnc, hcm, hcs, hct⟩
  · omega
  have hbv : vb ≠ b := fun e => hne (by rw [e]; rfl)
  have hcu : ∀ j u, us[j]? = some u → w.cell? ⟨b, j, none⟩ = some u := fun j u hj => by
    have := hown.cells (g := b) rfl j u hj
    rwa [Addr.add_any, Nat.zero_add] at this
  have hlen : cur.toList.length = c * 8 := by simpa using hcs
  by_cases hroom : n + 1 ≤ c
  · refine (insE_shift b n c i vb vc cur vs w (by omega) hroom (by unfold maxLen at hcm; omega) hbv hb hcs hvl hcv (by rw [hct]; exact h1) h1v 39 vcur.size (by simp [World.shape?, hvb]) (by simp [World.frozen?, hvb]) (by simp [World.frozen?, hvb])).mono ?_
    rintro e w' ⟨rfl, rfl⟩
    refine ⟨_, rfl, ⟨⟨by simp only [List.length_append, List.length_take, List.length_drop]; omega, .inr ⟨b, c, _, rfl, Nat.zero_le _, setRow_heap w.drew b cur _ _ _ hb, hroom, hcm, ?_, ?_⟩⟩, ⟨rfl, rfl, rfl, by simp [World.setRow], fun k hk hne' => setRow_other w.drew b k _ (fun e => hne' (by rw [e]; rfl))⟩, fun g hg => .inr hg⟩, fun g hg => .inl hg⟩
    · simp only [List.size_toArray, List.length_append, List.length_take, List.length_drop, hlen, hvl]; omega
    · have e1 : cur.toList.take (i * 8) = us.take (i * 8) := by rw [← hct, List.take_take, Nat.min_eq_left (by omega)]
      simp only [List.toList_toArray]
      rw [hct, e1, List.take_append_of_le_length (by simp only [List.length_append, List.length_take, List.length_drop, hvl]; omega)]
      exact List.take_of_length_le (by simp only [List.length_append, List.length_take, List.length_drop, hvl]; omega)
  · refine (insE_grow b n c i vb vc us vs w (by omega) hnc (by omega) hbig hul hvl hcu hcv h1 h1v).mono ?_
    rintro e w' ⟨G, cur', rfl, h2, h3, h4, h5, h6, h7⟩
    refine ⟨_, rfl, ⟨⟨by simp only [List.length_append, List.length_take, List.length_drop]; omega, .inr ⟨_, G, cur', rfl, Nat.zero_le _, h2, h3, h4, h5, h6⟩⟩, ⟨h7.os, h7.tape, h7.output, h7.size, fun k hk _ => h7.block k hk⟩, fun g hg => .inl (by cases hg; exact Nat.le_refl _)⟩, fun g hg => .inr (h7.block g (hown.lt g hg).2)⟩
end Go.Proofs.Ytfmefdeldgmhpaa

namespace Go.Proofs.Ytfmefdeldgmhpaa
set_option linter.unusedSimpArgs false
set_option linter.unusedVariables false
open Go.RowKit
theorem flat_take {sz : Nat} : ∀ (es : List (List D)) (i : Nat), (∀ x ∈ es, x.length = sz) → es.flatten.take (i * sz) = (es.take i).flatten ∧ es.flatten.drop (i * sz) = (es.drop i).flatten
  | [], i, _ => by simp
  | e :: es, 0, _ => by simp
  | e :: es, i + 1, h => by
    have hl := h e (by simp)
    obtain ⟨h1, h2⟩ := flat_take es i (fun x hx => h x (by simp [hx]))
    have he : (i + 1) * sz = e.length + i * sz := by rw [hl, Nat.add_mul]; omega
    simp only [List.flatten_cons, List.take_succ_cons, List.drop_succ_cons]
    rw [he, List.take_length_add_append, List.drop_length_add_append, h1, h2]
    exact ⟨rfl, rfl⟩
theorem callI_insE {B : Base} {s : St} {d : Option Tmp} {K : St → Prop} {n m i : Nat} {d0 : List V} {dd dx : List D} {es : List (List D)} {x : List D}
    (hd : (match d with | some t => decide (t < B.N) | none => true) = true) (hlk : lkB s.st n = some (.row 39 8 d0 (es.map dV))) (hlm : lkB s.st m = some (.tok 39 8 1)) (hnm : n ≠ m)
    (hi : i ≤ es.length) (hmax : es.length ≤ 1048576) (hel : ∀ y ∈ es, y.length = 8) (hx : x.length = 8)
    (hK : K ⟨put d (.ow s.nx 8 dd (es.take i ++ [x] ++ es.drop i)) s.tm, (s.nx, .tok 39 8 (es.take i ++ [x] ++ es.drop i).length) :: delB n s.st, s.nx + 1⟩) : callI Try.prog B 56 [.mo n, vI i, .ow m 8 dx [x]] d s K ⟨⟩ := by
  have hfl : (es.take i ++ [x] ++ es.drop i).length = es.length + 1 := by simp only [List.length_append, List.length_take, List.length_drop, List.length_cons, List.length_nil]; omega
  refine callI_regrow (el := 39) (sz := 8) (dd := dd) (fs := es.take i ++ [x] ++ es.drop i) (by kernel_rfl) hd hlk (by omega) (fun y hy => ?_) (fun E a us v ys hG hv h1 hown hR hone => ?_) hK
  · simp only [List.mem_append, List.mem_singleton] at hy
    rcases hy with (hy | rfl) | hy
    · exact hel y (List.mem_of_mem_take hy)
    · exact hx
    · exact hel y (List.mem_of_mem_drop hy)
  · simp only [RVL] at hv
    obtain ⟨v', r, rfl, hv1, u2, r2, rfl, hv2, xv, r3, rfl, hv3, rfl⟩ := hv
    simp only [RV, RD] at hv1 hv2
    subst hv2
    obtain rfl : v' = v := by have := hv1.1; rw [h1] at this; exact (Option.some.inj this).symm
    have hv3' : E.η m = some xv ∧ RD E.F E.w (.sl 8 dx [x]) xv := by simpa only [RV] using hv3
    obtain ⟨v2, us2, g1, g2, g3⟩ := hG.1.st m _ hlm
    obtain rfl : v2 = xv := by rw [hv3'.1] at g1; exact (Option.some.inj g1).symm
    obtain ⟨c1, c2, c3, _⟩ := own_cells (es := [x]) hv3'.2 g2
    rw [List.length_map] at hown
    have hys : RDL E.F E.w es.flatten ys := RVL.to_data (by rw [← dV_flat]; exact hR)
    have hb2 : ∃ b, hb v2 = some b := by
      rcases g2.2 with ⟨_, h0⟩ | ⟨g, cap, cur, rfl, _⟩
      · omega
      · exact ⟨g, rfl⟩
    obtain ⟨a1, cc1, e1, _⟩ := own_form hown
    obtain ⟨a2, cc2, e2, _⟩ := own_form g2
    refine (insE_any E.w v' v2 es.length i ys us2 hi (by omega) hown g2 ?_ hone c2).mono ?_
    · rw [ownBlock_hb e1, ownBlock_hb e2]
      obtain ⟨b, hb2⟩ := hb2
      intro e
      exact hG.1.dist n m _ _ b v' v2 hnm hlk hlm h1 hv3'.1 (e.trans hb2) hb2
    · rintro e w' ⟨v3, rfl, k1, k2⟩
      refine ⟨v3, _, rfl, by rw [hfl]; exact k1, k2, ?_, ?_⟩
      · obtain ⟨f1, f2⟩ := flat_take (sz := 8) es i hel
        have t1 := RDL.take (i * 8) hys
        have t2 := RDL.drop (i * 8) hys
        rw [f1] at t1
        rw [f2] at t2
        have := RDL.append (RDL.append t1 c1) t2
        simpa using this
      · intro u hu
        simp only [List.mem_append] at hu
        rcases hu with (hu | hu) | hu
        · exact hone u (List.mem_of_mem_take hu)
        · exact c2 u hu
        · exact hone u (List.mem_of_mem_drop hu)
def errA (l : List Ent) (x : Ent) : Int := if checkL l ≠ 0 then checkL l else if validE x = false then 330 else if (l.any fun y => y.no == x.no) = true then 181 else if l.length = 1024 then 2 else 0
def addP (l : List Ent) (x : Ent) : List Ent := l.filter (fun y => decide (y.no < x.no)) ++ [x] ++ l.filter (fun y => !decide (y.no < x.no))
def addL (l : List Ent) (x : Ent) : List Ent := if errA l x = 0 then addP l x else []
theorem lbE_parts : ∀ {l : List Ent} (no : Int), l.Pairwise (fun x y => x.no < y.no) → l.filter (fun y => decide (y.no < no)) = l.take (lbE l no) ∧ l.filter (fun y => !decide (y.no < no)) = l.drop (lbE l no)
  | [], no, _ => by simp [lbE]
  | x :: l, no, hp => by
    obtain ⟨h1, h2⟩ := List.pairwise_cons.1 hp
    obtain ⟨i1, i2⟩ := lbE_parts no h2
    unfold lbE at *
    by_cases h : x.no < no
    · rw [List.takeWhile_cons, if_pos (by simpa using h)]
      simp [h, i1, i2]
    · rw [List.takeWhile_cons, if_neg (by simpa using h)]
      have hall : ∀ y ∈ l, ¬ y.no < no := fun y hy => by have := h1 y hy; omega
      refine ⟨?_, ?_⟩
      · simp only [List.length_nil, List.take_zero]
        rw [List.filter_eq_nil_iff]
        intro y hy
        rcases List.mem_cons.1 hy with rfl | hy
        · simpa using h
        · simpa using hall y hy
      · simp only [List.length_nil, List.drop_zero]
        rw [List.filter_eq_self]
        intro y hy
        rcases List.mem_cons.1 hy with rfl | hy
        · simpa using h
        · simpa using hall y hy
theorem foundE_any {l : List Ent} (no : Int) (hp : l.Pairwise (fun x y => x.no < y.no)) : foundE l no = l.any fun y => y.no == no := by
  induction l with
  | nil => rfl
  | cons x l ih =>
    obtain ⟨h1, h2⟩ := List.pairwise_cons.1 hp
    have ih := ih h2
    unfold foundE lbE at *
    by_cases h : x.no < no
    · rw [List.takeWhile_cons, if_pos (by simpa using h), List.any_cons, show (x.no == no) = false by simp; omega, Bool.false_or, ← ih]
      simp
    · rw [List.takeWhile_cons, if_neg (by simpa using h), List.any_cons]
      have hall : (l.any fun y => y.no == no) = false := by
        rw [List.any_eq_false]
        intro y hy
        have := h1 y hy
        simp; omega
      rw [hall]
      simp
theorem lbE_le (l : List Ent) (no : Int) : lbE l no ≤ l.length := by
  unfold lbE
  induction l with
  | nil => simp
  | cons x l ih => rw [List.takeWhile_cons]; split <;> simp; exact ih
end Go.Proofs.Ytfmefdeldgmhpaa
