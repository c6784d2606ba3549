import Derived.Test.YtfmefdeldgmhpaaHA14
import Derived.Test.YtfmefdeldgmhpaaHA9
import Derived.Test.YtfmefdeldgmhpaaHA12
namespace Go.Proofs.Ytfmefdeldgmhpaa
set_option linter.unusedSimpArgs false
set_option linter.unusedVariables false
open Go.RowKit
theorem snocE (es : List Ent) (y : Ent) : es.map entD ++ [entD y] = (es ++ [y]).map entD := by simp
set_option maxRecDepth 100000
set_option maxHeartbeats 4000000
theorem validE_idR {x : Ent} (h : validE x = true) : idR x.no := by
  simp only [validE, fitsB, idB] at h
  unfold idR
  grind
theorem gadd_spec (l : List Ent) (x : Ent) (hl : l.length ≤ 140737488351232) (hk : ∀ k, i64 (l.getD k default).kind) (hx : i64 x.kind) : Spec Try.prog 31 [aEs l, .agg (entD x)] (.rt [aEs (addL l x), aI (errA l x)]) := by
  refine spec_of T_ok Try.func31 (by dsimp only [Try.f31]) rfl rfl (by simp) fun w F => ?_
  by_cases h1 : checkL l = 0
  · obtain ⟨hc1, hc2, hc3⟩ := checkL_ok h1
    by_cases h2 : validE x = true
    · have he : err1 x = 0 := by rw [err1, if_pos h2]
      have hB := bsE_spec l x.no hc1 (validE_idR h2) (fun y hy => validE_idR (hc3 y hy)) hc2
      have hfa := foundE_any x.no hc2
      cases hf : foundE l x.no with
      | true =>
        repeat' (first
          | (with_reducible refine aw_seq ?_)
          | ((with_reducible refine twoG_intro ?_ ?_) <;> intro hTw <;> first | (exact Bool.noConfusion hTw) | ((try simp only [hTw, Bool.not_true, Bool.not_false, Bool.true_and, Bool.false_and, Bool.and_true, Bool.and_false, Bool.true_or, Bool.false_or, Bool.or_true, Bool.or_false]); (first | (guard_hyp hTw : true = true; clear hTw) | (guard_hyp hTw : false = false; clear hTw) | (revert hTw; intro _))))
          | ((with_reducible refine two_intro ?_ ?_) <;> intro hTw <;> first | (exact Bool.noConfusion hTw) | ((first | (guard_hyp hTw : true = true; clear hTw) | (guard_hyp hTw : false = false; clear hTw) | (revert hTw; intro _))))
          | ((with_reducible refine And.intro ?_ ?_); (focus (first | exact eqEnt_ | omega | rfl | decide | grind)))
          | (with_reducible refine aw_block ?_)
          | (with_reducible refine aw_scope ?_)
          | ((first
              | ((with_reducible refine aw_regionA T_ok ?_ ?_); (focus kernel_rfl))
              | ((with_reducible refine aw_drawnA T_ok ?_ ?_ ?_ ?_); (focus kernel_rfl); (focus kernel_rfl); (focus (decide +kernel)))
              | ((with_reducible refine aw_drawnF T_ok ?_ ?_ ?_ ?_); (focus kernel_rfl); (focus kernel_rfl); (focus (decide +kernel)))
              | ((with_reducible refine callK_intro (gcheck_spec l hl hk) (by with_unfolding_all rfl) ?_ ?_); (focus kernel_rfl))
              | ((with_reducible refine callI_spec (gcheck_spec l hl hk) (by with_unfolding_all rfl) ?_ ?_ ?_); (focus kernel_rfl); (focus kernel_rfl))
              | ((with_reducible refine callK_intro (gcheck1_spec x hx) (by with_unfolding_all rfl) ?_ ?_); (focus kernel_rfl))
              | ((with_reducible refine callI_spec (gcheck1_spec x hx) (by with_unfolding_all rfl) ?_ ?_ ?_); (focus kernel_rfl); (focus kernel_rfl))
              | ((with_reducible refine callK_intro (hB) (by with_unfolding_all rfl) ?_ ?_); (focus kernel_rfl))
              | ((with_reducible refine callI_spec (hB) (by with_unfolding_all rfl) ?_ ?_ ?_); (focus kernel_rfl); (focus kernel_rfl))
              | (with_reducible refine aw_label ?_)
              | ((with_reducible refine aw_rfM ?_ ?_); (focus kernel_rfl))
              | (with_reducible refine aw_skip ?_)
              | (with_reducible refine aw_exit ?_)
              | ((with_reducible refine aw_condM ?_ ?_); (focus kernel_rfl))
              | (with_reducible refine aw_ret ?_)
            ); simp only [↓rwp.eq_def, ↓sop.eq_def, ↓slotK.eq_def, inV, shT, unT, inQ, rfQ, rfEnd, resOf, pickT, setP, ydA, ydQ, rowW, vD, fillV,  ↓gop.eq_def, ↓hop.eq_def, ↓hopH.eq_def, ↓hwp.eq_def, ↓ldV.eq_def, ↓ldK.eq_def, ↓ixK.eq_def, ↓addOff.eq_def, ↓exK.eq_def, ↓notK.eq_def, ↓pickK.eq_def, ↓iop2.eq_def, ↓binK.eq_def, ↓eqop.eq_def, icells, ↓iop.eq_def, ↓cutK.eq_def, ↓lenK.eq_def, ↓lenM.eq_def, tyInt, ↓lookK.eq_def, ↓mpK.eq_def, keyV, allI, fitK, lkM, upM, dlM, kq, ↓cvK.eq_def, ↓mmK.eq_def, ↓biK.eq_def, ↓stK.eq_def, ↓apK.eq_def, ↓apD.eq_def, ↓apM.eq_def, isMo, ↓apS.eq_def, nxt, put, setT, setB, delB, lkT_n, lkT_c, lkB_n, lkB_c, ev, ofC, inT, ofA, ofRet, dV_n, dV_c, getD_enc, toDs_dV, List.head?_cons, List.length_map, Option.toArray_some, Option.toArray_none, Int.toNat_natCast, slOf, TyK.agg, vcells, splice, pickOps, headF, restF, allF, zOf, strip, stripP, gOf, allP, rowV, toDs, toD, toA, toAs, headOps, tailOps, isT, addN, Op.operands, Call.operands, List.map_cons, List.map_nil, List.drop_zero, List.drop_succ_cons, List.take_succ_cons, List.take_zero, List.length_cons, List.length_nil, List.getElem?_cons_zero, List.getElem?_cons_succ, List.getElem?_toArray, Option.bind_some, Option.map_some, Option.map_none, List.append_nil, List.nil_append, List.cons_append, if_true, if_false, reduceIte, Nat.reduceEqDiff, Nat.reduceAdd, Nat.reduceSub, Int.reduceToNat, Nat.reduceLeDiff, Nat.reduceLT, and_false, and_self, Nat.zero_add, Nat.add_zero, reduceCtorEq, Option.getD_some, Option.getD_none, Option.isSome_some, Option.isSome_none, forall_const, true_and, and_true, true_implies, Bool.true_and, Bool.false_and, Bool.and_true, Bool.and_false, Bool.true_or, Bool.false_or, Bool.or_true, Bool.or_false, beq_self_eq_true, zipM, zcells, Value.cells, Value.oneCell', List.toList_toArray, Array.toList_append, Bool.not_not, List.cons.injEq, Int.reduceEq, eq_self, false_and, Bool.not_true, Bool.not_false, ne_eq, not_false_eq_true, imp_self, implies_true, av_bt, av_bf, av_and, av_or, av_nf, av_tt, av_n1, av_n2, av_t1, av_tp, retQ, retL, resV, RetV, RetOk, SubL, snocE, entD_len, entD_take, entD_hd, entD_ln, entD_ic, entD_d1, entD_d2, entD_d3, entD_d4, entD_d5, entD_d6, entD_d7, ty_39, ty_3, ty_22, ty_4, ty_91, h1, he, hf]; try simp (disch := omega) only [av_w, av_t1, av_tp, Int.toNat_natCast]))
        have : errA l x = 181 := by rw [errA, if_neg (by omega), if_neg (by simp [h2]), if_pos (by rw [← hfa, hf])]
        rw [addL, this, if_neg (by decide)]
        exact ⟨Sub.nil _ _, Sub.refl _⟩
      | false =>
        have hn : ¬ (l.any fun y => y.no == x.no) = true := by rw [← hfa, hf]; simp
        by_cases h3 : l.length = 1024
        · have hd : ((l.length : Int) == 1024) = true := by simp; omega
          repeat' (first
            | (with_reducible refine aw_seq ?_)
            | ((with_reducible refine twoG_intro ?_ ?_) <;> intro hTw <;> first | (exact Bool.noConfusion hTw) | ((try simp only [hTw, Bool.not_true, Bool.not_false, Bool.true_and, Bool.false_and, Bool.and_true, Bool.and_false, Bool.true_or, Bool.false_or, Bool.or_true, Bool.or_false]); (first | (guard_hyp hTw : true = true; clear hTw) | (guard_hyp hTw : false = false; clear hTw) | (revert hTw; intro _))))
            | ((with_reducible refine two_intro ?_ ?_) <;> intro hTw <;> first | (exact Bool.noConfusion hTw) | ((first | (guard_hyp hTw : true = true; clear hTw) | (guard_hyp hTw : false = false; clear hTw) | (revert hTw; intro _))))
            | ((with_reducible refine And.intro ?_ ?_); (focus (first | exact eqEnt_ | omega | rfl | decide | grind)))
            | (with_reducible refine aw_block ?_)
            | (with_reducible refine aw_scope ?_)
            | ((first
                | ((with_reducible refine aw_regionA T_ok ?_ ?_); (focus kernel_rfl))
                | ((with_reducible refine aw_drawnA T_ok ?_ ?_ ?_ ?_); (focus kernel_rfl); (focus kernel_rfl); (focus (decide +kernel)))
                | ((with_reducible refine aw_drawnF T_ok ?_ ?_ ?_ ?_); (focus kernel_rfl); (focus kernel_rfl); (focus (decide +kernel)))
                | ((with_reducible refine callK_intro (gcheck_spec l hl hk) (by with_unfolding_all rfl) ?_ ?_); (focus kernel_rfl))
                | ((with_reducible refine callI_spec (gcheck_spec l hl hk) (by with_unfolding_all rfl) ?_ ?_ ?_); (focus kernel_rfl); (focus kernel_rfl))
                | ((with_reducible refine callK_intro (gcheck1_spec x hx) (by with_unfolding_all rfl) ?_ ?_); (focus kernel_rfl))
                | ((with_reducible refine callI_spec (gcheck1_spec x hx) (by with_unfolding_all rfl) ?_ ?_ ?_); (focus kernel_rfl); (focus kernel_rfl))
                | ((with_reducible refine callK_intro (hB) (by with_unfolding_all rfl) ?_ ?_); (focus kernel_rfl))
                | ((with_reducible refine callI_spec (hB) (by with_unfolding_all rfl) ?_ ?_ ?_); (focus kernel_rfl); (focus kernel_rfl))
                | (with_reducible refine aw_label ?_)
                | ((with_reducible refine aw_rfM ?_ ?_); (focus kernel_rfl))
                | (with_reducible refine aw_skip ?_)
                | (with_reducible refine aw_exit ?_)
                | ((with_reducible refine aw_condM ?_ ?_); (focus kernel_rfl))
                | (with_reducible refine aw_ret ?_)
              ); simp only [↓rwp.eq_def, ↓sop.eq_def, ↓slotK.eq_def, inV, shT, unT, inQ, rfQ, rfEnd, resOf, pickT, setP, ydA, ydQ, rowW, vD, fillV,  ↓gop.eq_def, ↓hop.eq_def, ↓hopH.eq_def, ↓hwp.eq_def, ↓ldV.eq_def, ↓ldK.eq_def, ↓ixK.eq_def, ↓addOff.eq_def, ↓exK.eq_def, ↓notK.eq_def, ↓pickK.eq_def, ↓iop2.eq_def, ↓binK.eq_def, ↓eqop.eq_def, icells, ↓iop.eq_def, ↓cutK.eq_def, ↓lenK.eq_def, ↓lenM.eq_def, tyInt, ↓lookK.eq_def, ↓mpK.eq_def, keyV, allI, fitK, lkM, upM, dlM, kq, ↓cvK.eq_def, ↓mmK.eq_def, ↓biK.eq_def, ↓stK.eq_def, ↓apK.eq_def, ↓apD.eq_def, ↓apM.eq_def, isMo, ↓apS.eq_def, nxt, put, setT, setB, delB, lkT_n, lkT_c, lkB_n, lkB_c, ev, ofC, inT, ofA, ofRet, dV_n, dV_c, getD_enc, toDs_dV, List.head?_cons, List.length_map, Option.toArray_some, Option.toArray_none, Int.toNat_natCast, slOf, TyK.agg, vcells, splice, pickOps, headF, restF, allF, zOf, strip, stripP, gOf, allP, rowV, toDs, toD, toA, toAs, headOps, tailOps, isT, addN, Op.operands, Call.operands, List.map_cons, List.map_nil, List.drop_zero, List.drop_succ_cons, List.take_succ_cons, List.take_zero, List.length_cons, List.length_nil, List.getElem?_cons_zero, List.getElem?_cons_succ, List.getElem?_toArray, Option.bind_some, Option.map_some, Option.map_none, List.append_nil, List.nil_append, List.cons_append, if_true, if_false, reduceIte, Nat.reduceEqDiff, Nat.reduceAdd, Nat.reduceSub, Int.reduceToNat, Nat.reduceLeDiff, Nat.reduceLT, and_false, and_self, Nat.zero_add, Nat.add_zero, reduceCtorEq, Option.getD_some, Option.getD_none, Option.isSome_some, Option.isSome_none, forall_const, true_and, and_true, true_implies, Bool.true_and, Bool.false_and, Bool.and_true, Bool.and_false, Bool.true_or, Bool.false_or, Bool.or_true, Bool.or_false, beq_self_eq_true, zipM, zcells, Value.cells, Value.oneCell', List.toList_toArray, Array.toList_append, Bool.not_not, List.cons.injEq, Int.reduceEq, eq_self, false_and, Bool.not_true, Bool.not_false, ne_eq, not_false_eq_true, imp_self, implies_true, av_bt, av_bf, av_and, av_or, av_nf, av_tt, av_n1, av_n2, av_t1, av_tp, retQ, retL, resV, RetV, RetOk, SubL, snocE, entD_len, entD_take, entD_hd, entD_ln, entD_ic, entD_d1, entD_d2, entD_d3, entD_d4, entD_d5, entD_d6, entD_d7, ty_39, ty_3, ty_22, ty_4, ty_91, h1, he, hf, hd]; try simp (disch := omega) only [av_w, av_t1, av_tp, Int.toNat_natCast]))
          have : errA l x = 2 := by rw [errA, if_neg (by omega), if_neg (by simp [h2]), if_neg hn, if_pos h3]
          rw [addL, this, if_neg (by decide)]
          exact ⟨Sub.nil _ _, Sub.refl _⟩
        · have hd : ((l.length : Int) == 1024) = false := by simp; omega
          repeat' (first
            | (with_reducible refine aw_seq ?_)
            | ((with_reducible refine twoG_intro ?_ ?_) <;> intro hTw <;> first | (exact Bool.noConfusion hTw) | ((try simp only [hTw, Bool.not_true, Bool.not_false, Bool.true_and, Bool.false_and, Bool.and_true, Bool.and_false, Bool.true_or, Bool.false_or, Bool.or_true, Bool.or_false]); (first | (guard_hyp hTw : true = true; clear hTw) | (guard_hyp hTw : false = false; clear hTw) | (revert hTw; intro _))))
            | ((with_reducible refine two_intro ?_ ?_) <;> intro hTw <;> first | (exact Bool.noConfusion hTw) | ((first | (guard_hyp hTw : true = true; clear hTw) | (guard_hyp hTw : false = false; clear hTw) | (revert hTw; intro _))))
            | ((with_reducible refine And.intro ?_ ?_); (focus (first | exact eqEnt_ | omega | rfl | decide | grind)))
            | (with_reducible refine aw_block ?_)
            | (with_reducible refine aw_scope ?_)
            | ((first
                | ((with_reducible refine aw_regionA T_ok ?_ ?_); (focus kernel_rfl))
                | ((with_reducible refine aw_drawnX [0,1,2,3,4] [5,6,7] T_ok ?_ ?_ ?_ ?_); (focus kernel_rfl); (focus kernel_rfl); (focus (decide +kernel)))
                | ((with_reducible refine aw_drawnA T_ok ?_ ?_ ?_ ?_); (focus kernel_rfl); (focus kernel_rfl); (focus (decide +kernel)))
                | ((with_reducible refine aw_drawnF T_ok ?_ ?_ ?_ ?_); (focus kernel_rfl); (focus kernel_rfl); (focus (decide +kernel)))
                | ((with_reducible refine callK_intro (gcheck_spec l hl hk) (by with_unfolding_all rfl) ?_ ?_); (focus kernel_rfl))
                | ((with_reducible refine callI_spec (gcheck_spec l hl hk) (by with_unfolding_all rfl) ?_ ?_ ?_); (focus kernel_rfl); (focus kernel_rfl))
                | ((with_reducible refine callK_intro (gcheck1_spec x hx) (by with_unfolding_all rfl) ?_ ?_); (focus kernel_rfl))
                | ((with_reducible refine callI_spec (gcheck1_spec x hx) (by with_unfolding_all rfl) ?_ ?_ ?_); (focus kernel_rfl); (focus kernel_rfl))
                | ((with_reducible refine callK_intro (hB) (by with_unfolding_all rfl) ?_ ?_); (focus kernel_rfl))
                | ((with_reducible refine callI_spec (hB) (by with_unfolding_all rfl) ?_ ?_ ?_); (focus kernel_rfl); (focus kernel_rfl))
                | ((with_reducible refine callK_intro (cloneE_spec (l.map entD) (entD default) (entD default) (by rw [List.length_map]; omega)) (by with_unfolding_all rfl) ?_ ?_); (focus kernel_rfl))
                | ((with_reducible refine callK_own (cloneE_spec (l.map entD) (entD default) (entD default) (by rw [List.length_map]; omega)) (by with_unfolding_all rfl) ?_ ?_); (focus kernel_rfl))
                | ((with_reducible refine callI_spec (cloneE_spec (l.map entD) (entD default) (entD default) (by rw [List.length_map]; omega)) (by with_unfolding_all rfl) ?_ ?_ ?_); (focus kernel_rfl); (focus kernel_rfl))
                | (with_reducible refine aw_label ?_)
                | ((with_reducible refine aw_rfM ?_ ?_); (focus kernel_rfl))
                | (with_reducible refine aw_skip ?_)
                | (with_reducible refine aw_exit ?_)
                | ((with_reducible refine aw_condM ?_ ?_); (focus kernel_rfl))
                | (with_reducible refine aw_ret ?_)
              ); simp only [↓rwp.eq_def, ↓sop.eq_def, ↓slotK.eq_def, inV, shT, unT, inQ, rfQ, rfEnd, resOf, pickT, setP, ydA, ydQ, rowW, vD, fillV,  ↓gop.eq_def, ↓hop.eq_def, ↓hopH.eq_def, ↓hwp.eq_def, ↓ldV.eq_def, ↓ldK.eq_def, ↓ixK.eq_def, ↓addOff.eq_def, ↓exK.eq_def, ↓notK.eq_def, ↓pickK.eq_def, ↓iop2.eq_def, ↓binK.eq_def, ↓eqop.eq_def, icells, ↓iop.eq_def, ↓cutK.eq_def, ↓lenK.eq_def, ↓lenM.eq_def, tyInt, ↓lookK.eq_def, ↓mpK.eq_def, keyV, allI, fitK, lkM, upM, dlM, kq, ↓cvK.eq_def, ↓mmK.eq_def, ↓biK.eq_def, ↓stK.eq_def, ↓apK.eq_def, ↓apD.eq_def, ↓apM.eq_def, isMo, ↓apS.eq_def, nxt, put, setT, setB, delB, lkT_n, lkT_c, lkB_n, lkB_c, ev, ofC, inT, ofA, ofRet, dV_n, dV_c, getD_enc, toDs_dV, List.head?_cons, List.length_map, Option.toArray_some, Option.toArray_none, Int.toNat_natCast, slOf, TyK.agg, vcells, splice, pickOps, headF, restF, allF, zOf, strip, stripP, gOf, allP, rowV, toDs, toD, toA, toAs, headOps, tailOps, isT, addN, Op.operands, Call.operands, List.map_cons, List.map_nil, List.drop_zero, List.drop_succ_cons, List.take_succ_cons, List.take_zero, List.length_cons, List.length_nil, List.getElem?_cons_zero, List.getElem?_cons_succ, List.getElem?_toArray, Option.bind_some, Option.map_some, Option.map_none, List.append_nil, List.nil_append, List.cons_append, if_true, if_false, reduceIte, Nat.reduceEqDiff, Nat.reduceAdd, Nat.reduceSub, Int.reduceToNat, Nat.reduceLeDiff, Nat.reduceLT, and_false, and_self, Nat.zero_add, Nat.add_zero, reduceCtorEq, Option.getD_some, Option.getD_none, Option.isSome_some, Option.isSome_none, forall_const, true_and, and_true, true_implies, Bool.true_and, Bool.false_and, Bool.and_true, Bool.and_false, Bool.true_or, Bool.false_or, Bool.or_true, Bool.or_false, beq_self_eq_true, zipM, zcells, Value.cells, Value.oneCell', List.toList_toArray, Array.toList_append, Bool.not_not, List.cons.injEq, Int.reduceEq, eq_self, false_and, Bool.not_true, Bool.not_false, ne_eq, not_false_eq_true, imp_self, implies_true, av_bt, av_bf, av_and, av_or, av_nf, av_tt, av_n1, av_n2, av_t1, av_tp, retQ, retL, resV, RetV, RetOk, SubL, snocE, entD_len, entD_take, entD_hd, entD_ln, entD_ic, entD_d1, entD_d2, entD_d3, entD_d4, entD_d5, entD_d6, entD_d7, ty_39, ty_3, ty_22, ty_4, ty_91, h1, he, hf, hd]; try simp (disch := omega) only [av_w, av_t1, av_tp, Int.toNat_natCast]))
          refine callI_insE (n := 2) (m := 5) (i := lbE l x.no) (es := l.map entD) (x := entD x) (dd := entD default) rfl rfl rfl (by decide) (by rw [List.length_map]; exact lbE_le l x.no) (by rw [List.length_map]; omega) (fun y hy => by obtain ⟨e, _, rfl⟩ := List.mem_map.1 hy; rfl) rfl ?_
          simp only [↓rwp.eq_def, ↓sop.eq_def, ↓slotK.eq_def, inV, shT, unT, inQ, rfQ, rfEnd, resOf, pickT, setP, ydA, ydQ, rowW, vD, fillV,  ↓gop.eq_def, ↓hop.eq_def, ↓hopH.eq_def, ↓hwp.eq_def, ↓ldV.eq_def, ↓ldK.eq_def, ↓ixK.eq_def, ↓addOff.eq_def, ↓exK.eq_def, ↓notK.eq_def, ↓pickK.eq_def, ↓iop2.eq_def, ↓binK.eq_def, ↓eqop.eq_def, icells, ↓iop.eq_def, ↓cutK.eq_def, ↓lenK.eq_def, ↓lenM.eq_def, tyInt, ↓lookK.eq_def, ↓mpK.eq_def, keyV, allI, fitK, lkM, upM, dlM, kq, ↓cvK.eq_def, ↓mmK.eq_def, ↓biK.eq_def, ↓stK.eq_def, ↓apK.eq_def, ↓apD.eq_def, ↓apM.eq_def, isMo, ↓apS.eq_def, nxt, put, setT, setB, delB, lkT_n, lkT_c, lkB_n, lkB_c, ev, ofC, inT, ofA, ofRet, dV_n, dV_c, getD_enc, toDs_dV, List.head?_cons, List.length_map, Option.toArray_some, Option.toArray_none, Int.toNat_natCast, slOf, TyK.agg, vcells, splice, pickOps, headF, restF, allF, zOf, strip, stripP, gOf, allP, rowV, toDs, toD, toA, toAs, headOps, tailOps, isT, addN, Op.operands, Call.operands, List.map_cons, List.map_nil, List.drop_zero, List.drop_succ_cons, List.take_succ_cons, List.take_zero, List.length_cons, List.length_nil, List.getElem?_cons_zero, List.getElem?_cons_succ, List.getElem?_toArray, Option.bind_some, Option.map_some, Option.map_none, List.append_nil, List.nil_append, List.cons_append, if_true, if_false, reduceIte, Nat.reduceEqDiff, Nat.reduceAdd, Nat.reduceSub, Int.reduceToNat, Nat.reduceLeDiff, Nat.reduceLT, and_false, and_self, Nat.zero_add, Nat.add_zero, reduceCtorEq, Option.getD_some, Option.getD_none, Option.isSome_some, Option.isSome_none, forall_const, true_and, and_true, true_implies, Bool.true_and, Bool.false_and, Bool.and_true, Bool.and_false, Bool.true_or, Bool.false_or, Bool.or_true, Bool.or_false, beq_self_eq_true, zipM, zcells, Value.cells, Value.oneCell', List.toList_toArray, Array.toList_append, Bool.not_not, List.cons.injEq, Int.reduceEq, eq_self, false_and, Bool.not_true, Bool.not_false, ne_eq, not_false_eq_true, imp_self, implies_true, av_bt, av_bf, av_and, av_or, av_nf, av_tt, av_n1, av_n2, av_t1, av_tp, entD_len, entD_take, entD_hd, entD_ln, entD_ic, entD_d1, entD_d2, entD_d3, entD_d4, entD_d5, entD_d6, entD_d7]
          repeat' (first
            | (with_reducible refine aw_seq ?_)
            | ((with_reducible refine twoG_intro ?_ ?_) <;> intro hTw <;> first | (exact Bool.noConfusion hTw) | ((try simp only [hTw, Bool.not_true, Bool.not_false, Bool.true_and, Bool.false_and, Bool.and_true, Bool.and_false, Bool.true_or, Bool.false_or, Bool.or_true, Bool.or_false]); (first | (guard_hyp hTw : true = true; clear hTw) | (guard_hyp hTw : false = false; clear hTw) | (revert hTw; intro _))))
            | ((with_reducible refine two_intro ?_ ?_) <;> intro hTw <;> first | (exact Bool.noConfusion hTw) | ((first | (guard_hyp hTw : true = true; clear hTw) | (guard_hyp hTw : false = false; clear hTw) | (revert hTw; intro _))))
            | ((with_reducible refine And.intro ?_ ?_); (focus (first | exact eqEnt_ | omega | rfl | decide | grind)))
            | (with_reducible refine aw_block ?_)
            | (with_reducible refine aw_scope ?_)
            | ((first
                | ((with_reducible refine aw_regionA T_ok ?_ ?_); (focus kernel_rfl))
                | ((with_reducible refine aw_drawnA T_ok ?_ ?_ ?_ ?_); (focus kernel_rfl); (focus kernel_rfl); (focus (decide +kernel)))
                | ((with_reducible refine aw_drawnF T_ok ?_ ?_ ?_ ?_); (focus kernel_rfl); (focus kernel_rfl); (focus (decide +kernel)))
                | (with_reducible refine aw_label ?_)
                | ((with_reducible refine aw_rfM ?_ ?_); (focus kernel_rfl))
                | (with_reducible refine aw_skip ?_)
                | (with_reducible refine aw_exit ?_)
                | ((with_reducible refine aw_condM ?_ ?_); (focus kernel_rfl))
                | (with_reducible refine aw_ret ?_)
              ); simp only [↓rwp.eq_def, ↓sop.eq_def, ↓slotK.eq_def, inV, shT, unT, inQ, rfQ, rfEnd, resOf, pickT, setP, ydA, ydQ, rowW, vD, fillV,  ↓gop.eq_def, ↓hop.eq_def, ↓hopH.eq_def, ↓hwp.eq_def, ↓ldV.eq_def, ↓ldK.eq_def, ↓ixK.eq_def, ↓addOff.eq_def, ↓exK.eq_def, ↓notK.eq_def, ↓pickK.eq_def, ↓iop2.eq_def, ↓binK.eq_def, ↓eqop.eq_def, icells, ↓iop.eq_def, ↓cutK.eq_def, ↓lenK.eq_def, ↓lenM.eq_def, tyInt, ↓lookK.eq_def, ↓mpK.eq_def, keyV, allI, fitK, lkM, upM, dlM, kq, ↓cvK.eq_def, ↓mmK.eq_def, ↓biK.eq_def, ↓stK.eq_def, ↓apK.eq_def, ↓apD.eq_def, ↓apM.eq_def, isMo, ↓apS.eq_def, nxt, put, setT, setB, delB, lkT_n, lkT_c, lkB_n, lkB_c, ev, ofC, inT, ofA, ofRet, dV_n, dV_c, getD_enc, toDs_dV, List.head?_cons, List.length_map, Option.toArray_some, Option.toArray_none, Int.toNat_natCast, slOf, TyK.agg, vcells, splice, pickOps, headF, restF, allF, zOf, strip, stripP, gOf, allP, rowV, toDs, toD, toA, toAs, headOps, tailOps, isT, addN, Op.operands, Call.operands, List.map_cons, List.map_nil, List.drop_zero, List.drop_succ_cons, List.take_succ_cons, List.take_zero, List.length_cons, List.length_nil, List.getElem?_cons_zero, List.getElem?_cons_succ, List.getElem?_toArray, Option.bind_some, Option.map_some, Option.map_none, List.append_nil, List.nil_append, List.cons_append, if_true, if_false, reduceIte, Nat.reduceEqDiff, Nat.reduceAdd, Nat.reduceSub, Int.reduceToNat, Nat.reduceLeDiff, Nat.reduceLT, and_false, and_self, Nat.zero_add, Nat.add_zero, reduceCtorEq, Option.getD_some, Option.getD_none, Option.isSome_some, Option.isSome_none, forall_const, true_and, and_true, true_implies, Bool.true_and, Bool.false_and, Bool.and_true, Bool.and_false, Bool.true_or, Bool.false_or, Bool.or_true, Bool.or_false, beq_self_eq_true, zipM, zcells, Value.cells, Value.oneCell', List.toList_toArray, Array.toList_append, Bool.not_not, List.cons.injEq, Int.reduceEq, eq_self, false_and, Bool.not_true, Bool.not_false, ne_eq, not_false_eq_true, imp_self, implies_true, av_bt, av_bf, av_and, av_or, av_nf, av_tt, av_n1, av_n2, av_t1, av_tp, retQ, retL, resV, RetV, RetOk, SubL, snocE, entD_len, entD_take, entD_hd, entD_ln, entD_ic, entD_d1, entD_d2, entD_d3, entD_d4, entD_d5, entD_d6, entD_d7, ty_39, ty_3, ty_22, ty_4, ty_91]; try simp (disch := omega) only [av_w, av_t1, av_tp, Int.toNat_natCast]))
          have h0 : errA l x = 0 := by rw [errA, if_neg (by omega), if_neg (by simp [h2]), if_neg hn, if_neg h3]
          rw [addL, h0, if_pos rfl, addP, (lbE_parts x.no hc2).1, (lbE_parts x.no hc2).2]
          exact ⟨Sub.sl (by simp), Sub.refl _⟩
    · have h2 : validE x = false := by simpa using h2
      have he : err1 x = 330 := by rw [err1, if_neg (by simp [h2])]
      repeat' (first
        | (with_reducible refine aw_seq ?_)
        | ((with_reducible refine twoG_intro ?_ ?_) <;> intro hTw <;> first | (exact Bool.noConfusion hTw) | ((try simp only [hTw, Bool.not_true, Bool.not_false, Bool.true_and, Bool.false_and, Bool.and_true, Bool.and_false, Bool.true_or, Bool.false_or, Bool.or_true, Bool.or_false]); (first | (guard_hyp hTw : true = true; clear hTw) | (guard_hyp hTw : false = false; clear hTw) | (revert hTw; intro _))))
        | ((with_reducible refine two_intro ?_ ?_) <;> intro hTw <;> first | (exact Bool.noConfusion hTw) | ((first | (guard_hyp hTw : true = true; clear hTw) | (guard_hyp hTw : false = false; clear hTw) | (revert hTw; intro _))))
        | ((with_reducible refine And.intro ?_ ?_); (focus (first | exact eqEnt_ | omega | rfl | decide | grind)))
        | (with_reducible refine aw_block ?_)
        | (with_reducible refine aw_scope ?_)
        | ((first
            | ((with_reducible refine aw_regionA T_ok ?_ ?_); (focus kernel_rfl))
            | ((with_reducible refine aw_drawnA T_ok ?_ ?_ ?_ ?_); (focus kernel_rfl); (focus kernel_rfl); (focus (decide +kernel)))
            | ((with_reducible refine aw_drawnF T_ok ?_ ?_ ?_ ?_); (focus kernel_rfl); (focus kernel_rfl); (focus (decide +kernel)))
            | ((with_reducible refine callK_intro (gcheck_spec l hl hk) (by with_unfolding_all rfl) ?_ ?_); (focus kernel_rfl))
            | ((with_reducible refine callI_spec (gcheck_spec l hl hk) (by with_unfolding_all rfl) ?_ ?_ ?_); (focus kernel_rfl); (focus kernel_rfl))
            | ((with_reducible refine callK_intro (gcheck1_spec x hx) (by with_unfolding_all rfl) ?_ ?_); (focus kernel_rfl))
            | ((with_reducible refine callI_spec (gcheck1_spec x hx) (by with_unfolding_all rfl) ?_ ?_ ?_); (focus kernel_rfl); (focus kernel_rfl))
            | (with_reducible refine aw_label ?_)
            | ((with_reducible refine aw_rfM ?_ ?_); (focus kernel_rfl))
            | (with_reducible refine aw_skip ?_)
            | (with_reducible refine aw_exit ?_)
            | ((with_reducible refine aw_condM ?_ ?_); (focus kernel_rfl))
            | (with_reducible refine aw_ret ?_)
          ); simp only [↓rwp.eq_def, ↓sop.eq_def, ↓slotK.eq_def, inV, shT, unT, inQ, rfQ, rfEnd, resOf, pickT, setP, ydA, ydQ, rowW, vD, fillV,  ↓gop.eq_def, ↓hop.eq_def, ↓hopH.eq_def, ↓hwp.eq_def, ↓ldV.eq_def, ↓ldK.eq_def, ↓ixK.eq_def, ↓addOff.eq_def, ↓exK.eq_def, ↓notK.eq_def, ↓pickK.eq_def, ↓iop2.eq_def, ↓binK.eq_def, ↓eqop.eq_def, icells, ↓iop.eq_def, ↓cutK.eq_def, ↓lenK.eq_def, ↓lenM.eq_def, tyInt, ↓lookK.eq_def, ↓mpK.eq_def, keyV, allI, fitK, lkM, upM, dlM, kq, ↓cvK.eq_def, ↓mmK.eq_def, ↓biK.eq_def, ↓stK.eq_def, ↓apK.eq_def, ↓apD.eq_def, ↓apM.eq_def, isMo, ↓apS.eq_def, nxt, put, setT, setB, delB, lkT_n, lkT_c, lkB_n, lkB_c, ev, ofC, inT, ofA, ofRet, dV_n, dV_c, getD_enc, toDs_dV, List.head?_cons, List.length_map, Option.toArray_some, Option.toArray_none, Int.toNat_natCast, slOf, TyK.agg, vcells, splice, pickOps, headF, restF, allF, zOf, strip, stripP, gOf, allP, rowV, toDs, toD, toA, toAs, headOps, tailOps, isT, addN, Op.operands, Call.operands, List.map_cons, List.map_nil, List.drop_zero, List.drop_succ_cons, List.take_succ_cons, List.take_zero, List.length_cons, List.length_nil, List.getElem?_cons_zero, List.getElem?_cons_succ, List.getElem?_toArray, Option.bind_some, Option.map_some, Option.map_none, List.append_nil, List.nil_append, List.cons_append, if_true, if_false, reduceIte, Nat.reduceEqDiff, Nat.reduceAdd, Nat.reduceSub, Int.reduceToNat, Nat.reduceLeDiff, Nat.reduceLT, and_false, and_self, Nat.zero_add, Nat.add_zero, reduceCtorEq, Option.getD_some, Option.getD_none, Option.isSome_some, Option.isSome_none, forall_const, true_and, and_true, true_implies, Bool.true_and, Bool.false_and, Bool.and_true, Bool.and_false, Bool.true_or, Bool.false_or, Bool.or_true, Bool.or_false, beq_self_eq_true, zipM, zcells, Value.cells, Value.oneCell', List.toList_toArray, Array.toList_append, Bool.not_not, List.cons.injEq, Int.reduceEq, eq_self, false_and, Bool.not_true, Bool.not_false, ne_eq, not_false_eq_true, imp_self, implies_true, av_bt, av_bf, av_and, av_or, av_nf, av_tt, av_n1, av_n2, av_t1, av_tp, retQ, retL, resV, RetV, RetOk, SubL, snocE, entD_len, entD_take, entD_hd, entD_ln, entD_ic, entD_d1, entD_d2, entD_d3, entD_d4, entD_d5, entD_d6, entD_d7, ty_39, ty_3, ty_22, ty_4, ty_91, h1, he]; try simp (disch := omega) only [av_w, av_t1, av_tp, Int.toNat_natCast]))
      have : errA l x = 330 := by rw [errA, if_neg (by omega), if_pos h2]
      rw [addL, this, if_neg (by decide)]
      exact ⟨Sub.nil _ _, Sub.refl _⟩
  · have hd : ((checkL l) != 0) = true := by simpa using h1
    repeat' (first
      | (with_reducible refine aw_seq ?_)
      | ((with_reducible refine twoG_intro ?_ ?_) <;> intro hTw <;> first | (exact Bool.noConfusion hTw) | ((try simp only [hTw, Bool.not_true, Bool.not_false, Bool.true_and, Bool.false_and, Bool.and_true, Bool.and_false, Bool.true_or, Bool.false_or, Bool.or_true, Bool.or_false]); (first | (guard_hyp hTw : true = true; clear hTw) | (guard_hyp hTw : false = false; clear hTw) | (revert hTw; intro _))))
      | ((with_reducible refine two_intro ?_ ?_) <;> intro hTw <;> first | (exact Bool.noConfusion hTw) | ((first | (guard_hyp hTw : true = true; clear hTw) | (guard_hyp hTw : false = false; clear hTw) | (revert hTw; intro _))))
      | ((with_reducible refine And.intro ?_ ?_); (focus (first | exact eqEnt_ | omega | rfl | decide | grind)))
      | (with_reducible refine aw_block ?_)
      | (with_reducible refine aw_scope ?_)
      | ((first
          | ((with_reducible refine aw_regionA T_ok ?_ ?_); (focus kernel_rfl))
          | ((with_reducible refine aw_drawnA T_ok ?_ ?_ ?_ ?_); (focus kernel_rfl); (focus kernel_rfl); (focus (decide +kernel)))
          | ((with_reducible refine aw_drawnF T_ok ?_ ?_ ?_ ?_); (focus kernel_rfl); (focus kernel_rfl); (focus (decide +kernel)))
          | ((with_reducible refine callK_intro (gcheck_spec l hl hk) (by with_unfolding_all rfl) ?_ ?_); (focus kernel_rfl))
          | ((with_reducible refine callI_spec (gcheck_spec l hl hk) (by with_unfolding_all rfl) ?_ ?_ ?_); (focus kernel_rfl); (focus kernel_rfl))
          | (with_reducible refine aw_label ?_)
          | ((with_reducible refine aw_rfM ?_ ?_); (focus kernel_rfl))
          | (with_reducible refine aw_skip ?_)
          | (with_reducible refine aw_exit ?_)
          | ((with_reducible refine aw_condM ?_ ?_); (focus kernel_rfl))
          | (with_reducible refine aw_ret ?_)
        ); simp only [↓rwp.eq_def, ↓sop.eq_def, ↓slotK.eq_def, inV, shT, unT, inQ, rfQ, rfEnd, resOf, pickT, setP, ydA, ydQ, rowW, vD, fillV,  ↓gop.eq_def, ↓hop.eq_def, ↓hopH.eq_def, ↓hwp.eq_def, ↓ldV.eq_def, ↓ldK.eq_def, ↓ixK.eq_def, ↓addOff.eq_def, ↓exK.eq_def, ↓notK.eq_def, ↓pickK.eq_def, ↓iop2.eq_def, ↓binK.eq_def, ↓eqop.eq_def, icells, ↓iop.eq_def, ↓cutK.eq_def, ↓lenK.eq_def, ↓lenM.eq_def, tyInt, ↓lookK.eq_def, ↓mpK.eq_def, keyV, allI, fitK, lkM, upM, dlM, kq, ↓cvK.eq_def, ↓mmK.eq_def, ↓biK.eq_def, ↓stK.eq_def, ↓apK.eq_def, ↓apD.eq_def, ↓apM.eq_def, isMo, ↓apS.eq_def, nxt, put, setT, setB, delB, lkT_n, lkT_c, lkB_n, lkB_c, ev, ofC, inT, ofA, ofRet, dV_n, dV_c, getD_enc, toDs_dV, List.head?_cons, List.length_map, Option.toArray_some, Option.toArray_none, Int.toNat_natCast, slOf, TyK.agg, vcells, splice, pickOps, headF, restF, allF, zOf, strip, stripP, gOf, allP, rowV, toDs, toD, toA, toAs, headOps, tailOps, isT, addN, Op.operands, Call.operands, List.map_cons, List.map_nil, List.drop_zero, List.drop_succ_cons, List.take_succ_cons, List.take_zero, List.length_cons, List.length_nil, List.getElem?_cons_zero, List.getElem?_cons_succ, List.getElem?_toArray, Option.bind_some, Option.map_some, Option.map_none, List.append_nil, List.nil_append, List.cons_append, if_true, if_false, reduceIte, Nat.reduceEqDiff, Nat.reduceAdd, Nat.reduceSub, Int.reduceToNat, Nat.reduceLeDiff, Nat.reduceLT, and_false, and_self, Nat.zero_add, Nat.add_zero, reduceCtorEq, Option.getD_some, Option.getD_none, Option.isSome_some, Option.isSome_none, forall_const, true_and, and_true, true_implies, Bool.true_and, Bool.false_and, Bool.and_true, Bool.and_false, Bool.true_or, Bool.false_or, Bool.or_true, Bool.or_false, beq_self_eq_true, zipM, zcells, Value.cells, Value.oneCell', List.toList_toArray, Array.toList_append, Bool.not_not, List.cons.injEq, Int.reduceEq, eq_self, false_and, Bool.not_true, Bool.not_false, ne_eq, not_false_eq_true, imp_self, implies_true, av_bt, av_bf, av_and, av_or, av_nf, av_tt, av_n1, av_n2, av_t1, av_tp, retQ, retL, resV, RetV, RetOk, SubL, snocE, entD_len, entD_take, entD_hd, entD_ln, entD_ic, entD_d1, entD_d2, entD_d3, entD_d4, entD_d5, entD_d6, entD_d7, ty_39, ty_3, ty_22, ty_4, ty_91, hd]; try simp (disch := omega) only [av_w, av_t1, av_tp, Int.toNat_natCast]))
    have : errA l x = checkL l := by rw [errA, if_pos h1]
    rw [addL, this, if_neg h1]
    exact ⟨Sub.nil _ _, Sub.refl _⟩
end Go.Proofs.Ytfmefdeldgmhpaa


namespace Go.Proofs.Ytfmefdeldgmhpaa
set_option linter.unusedSimpArgs false
set_option linter.unusedVariables false
open Go.RowKit
set_option maxRecDepth 100000
set_option maxHeartbeats 4000000
theorem Spec.args {P : Program} {f : FuncId} {xs ys : List A} {r : Ret} (h : Spec P f ys r) (hs : SubL xs ys) : Spec P f xs r := fun F w us hF ha => h F w us hF (subL_ok hs ha)
theorem i64_zero : i64 0 := by unfold i64; decide
theorem kindsAt {l : List Ent} (h : ∀ x ∈ l, i64 x.kind) : ∀ k, i64 (l.getD k default).kind := fun k => by
  by_cases hk : k < l.length
  · have : l.getD k default = l[k] := by simp [List.getD, hk]
    rw [this]; exact h _ (List.getElem_mem hk)
  · have : l.getD k default = default := by simp [List.getD, hk]
    rw [this]; exact i64_zero
theorem i64s {l : List Ent} (h : (l.all fun x => decide (-9223372036854775808 ≤ x.kind ∧ x.kind ≤ 9223372036854775807)) = true) : ∀ x ∈ l, i64 x.kind := fun x hx => by
  have := List.all_eq_true.1 h x hx
  simpa [i64] using this
end Go.Proofs.Ytfmefdeldgmhpaa


namespace Go.Proofs.Ytfmefdeldgmhpaa
set_option linter.unusedSimpArgs false
set_option linter.unusedVariables false
open Go.RowKit
set_option maxRecDepth 100000
set_option maxHeartbeats 4000000
theorem hvalid_spec (l : List Ent) (person day time : Int) (hl : l.length ≤ 140737488351232) : Spec Try.prog 22 [aEs l, aI person, aI day, aI time] (.r1 (aB (validL l person day time))) := by
  refine spec_of T_ok Try.func22 (by dsimp only [Try.f22]) rfl rfl (by simp) fun w F => ?_
  repeat' (first
    | (with_reducible refine aw_seq ?_)
    | ((with_reducible refine twoG_intro ?_ ?_) <;> intro hTw <;> first | (exact Bool.noConfusion hTw) | ((try simp only [hTw, Bool.not_true, Bool.not_false, Bool.true_and, Bool.false_and, Bool.and_true, Bool.and_false, Bool.true_or, Bool.false_or, Bool.or_true, Bool.or_false]); (first | (guard_hyp hTw : true = true; clear hTw) | (guard_hyp hTw : false = false; clear hTw) | (revert hTw; intro _))))
    | ((with_reducible refine two_intro ?_ ?_) <;> intro hTw <;> first | (exact Bool.noConfusion hTw) | ((first | (guard_hyp hTw : true = true; clear hTw) | (guard_hyp hTw : false = false; clear hTw) | (revert hTw; intro _))))
    | ((with_reducible refine And.intro ?_ ?_); (focus (first | exact eqHome | omega | rfl | decide | grind)))
    | (with_reducible refine aw_block ?_)
    | (with_reducible refine aw_scope ?_)
    | ((first
        | ((with_reducible refine aw_regionA T_ok ?_ ?_); (focus kernel_rfl))
        | ((with_reducible refine aw_drawnA T_ok ?_ ?_ ?_ ?_); (focus kernel_rfl); (focus kernel_rfl); (focus (decide +kernel)))
        | ((with_reducible refine aw_drawnF T_ok ?_ ?_ ?_ ?_); (focus kernel_rfl); (focus kernel_rfl); (focus (decide +kernel)))
        | ((with_reducible refine callK_intro (echeck_spec l hl) (by with_unfolding_all rfl) ?_ ?_); (focus kernel_rfl))
        | ((with_reducible refine callI_spec (echeck_spec l hl) (by with_unfolding_all rfl) ?_ ?_ ?_); (focus kernel_rfl); (focus kernel_rfl))
        | (with_reducible refine aw_label ?_)
        | ((with_reducible refine aw_rfM ?_ ?_); (focus kernel_rfl))
        | (with_reducible refine aw_skip ?_)
        | (with_reducible refine aw_exit ?_)
        | ((with_reducible refine aw_condM ?_ ?_); (focus kernel_rfl))
        | (with_reducible refine aw_ret ?_)
      ); simp only [↓rwp.eq_def, ↓sop.eq_def, ↓slotK.eq_def, inV, shT, unT, inQ, rfQ, rfEnd, resOf, pickT, setP, ydA, ydQ, rowW, vD, fillV,  ↓gop.eq_def, ↓hop.eq_def, ↓hopH.eq_def, ↓hwp.eq_def, ↓ldV.eq_def, ↓ldK.eq_def, ↓ixK.eq_def, ↓addOff.eq_def, ↓exK.eq_def, ↓notK.eq_def, ↓pickK.eq_def, ↓iop2.eq_def, ↓binK.eq_def, ↓eqop.eq_def, icells, ↓iop.eq_def, ↓cutK.eq_def, ↓lenK.eq_def, ↓lenM.eq_def, tyInt, ↓lookK.eq_def, ↓mpK.eq_def, keyV, allI, fitK, lkM, upM, dlM, kq, ↓cvK.eq_def, ↓mmK.eq_def, ↓biK.eq_def, ↓stK.eq_def, ↓apK.eq_def, ↓apD.eq_def, ↓apM.eq_def, isMo, ↓apS.eq_def, nxt, put, setT, setB, delB, lkT_n, lkT_c, lkB_n, lkB_c, ev, ofC, inT, ofA, ofRet, dV_n, dV_c, getD_enc, toDs_dV, List.head?_cons, List.length_map, Option.toArray_some, Option.toArray_none, Int.toNat_natCast, slOf, TyK.agg, vcells, splice, pickOps, headF, restF, allF, zOf, strip, stripP, gOf, allP, rowV, toDs, toD, toA, toAs, headOps, tailOps, isT, addN, Op.operands, Call.operands, List.map_cons, List.map_nil, List.drop_zero, List.drop_succ_cons, List.take_succ_cons, List.take_zero, List.length_cons, List.length_nil, List.getElem?_cons_zero, List.getElem?_cons_succ, List.getElem?_toArray, Option.bind_some, Option.map_some, Option.map_none, List.append_nil, List.nil_append, List.cons_append, if_true, if_false, reduceIte, Nat.reduceEqDiff, Nat.reduceAdd, Nat.reduceSub, Int.reduceToNat, Nat.reduceLeDiff, Nat.reduceLT, and_false, and_self, Nat.zero_add, Nat.add_zero, reduceCtorEq, Option.getD_some, Option.getD_none, Option.isSome_some, Option.isSome_none, forall_const, true_and, and_true, true_implies, Bool.true_and, Bool.false_and, Bool.and_true, Bool.and_false, Bool.true_or, Bool.false_or, Bool.or_true, Bool.or_false, beq_self_eq_true, zipM, zcells, Value.cells, Value.oneCell', List.toList_toArray, Array.toList_append, Bool.not_not, List.cons.injEq, Int.reduceEq, eq_self, false_and, Bool.not_true, Bool.not_false, ne_eq, not_false_eq_true, imp_self, implies_true, av_bt, av_bf, av_and, av_or, av_nf, av_tt, av_n1, av_n2, av_t1, av_tp, retQ, retL, resV, RetV, RetOk, SubL, entD_len, entD_take, entD_hd, entD_ln, entD_ic, entD_d1, entD_d2, entD_d3, entD_d4, entD_d5, entD_d6, entD_d7, homD_len, homD_take, homD_hd, homD_ln, homD_ic, homD_d1, homD_d2, intD_len, intD_take, intD_hd, intD_ln, intD_ic, snocI, ty_39, ty_3, ty_22, ty_30, ty_4, ty_26]; try simp (disch := omega) only [av_w, av_t1, av_tp, Int.toNat_natCast]))
  all_goals (refine Sub.of_eq (congrArg aB ?_); simp only [validL]; grind)
theorem hentry_spec (no kind a b : Int) : Spec Try.prog 36 [aI no, aI kind, aI a, aI b] (.r1 (.agg (entD ⟨no, kind, a, b, 0, 2097152, 0, 2097152⟩))) := by
  refine spec_of T_ok Try.func36 (by dsimp only [Try.f36]) rfl rfl (by simp) fun w F => ?_
  repeat' (first
    | (with_reducible refine aw_seq ?_)
    | ((with_reducible refine twoG_intro ?_ ?_) <;> intro hTw <;> first | (exact Bool.noConfusion hTw) | ((try simp only [hTw, Bool.not_true, Bool.not_false, Bool.true_and, Bool.false_and, Bool.and_true, Bool.and_false, Bool.true_or, Bool.false_or, Bool.or_true, Bool.or_false]); (first | (guard_hyp hTw : true = true; clear hTw) | (guard_hyp hTw : false = false; clear hTw) | (revert hTw; intro _))))
    | ((with_reducible refine two_intro ?_ ?_) <;> intro hTw <;> first | (exact Bool.noConfusion hTw) | ((first | (guard_hyp hTw : true = true; clear hTw) | (guard_hyp hTw : false = false; clear hTw) | (revert hTw; intro _))))
    | ((with_reducible refine And.intro ?_ ?_); (focus (first | exact eqHome | omega | rfl | decide | grind)))
    | (with_reducible refine aw_block ?_)
    | (with_reducible refine aw_scope ?_)
    | ((first
        | ((with_reducible refine aw_regionA T_ok ?_ ?_); (focus kernel_rfl))
        | ((with_reducible refine aw_drawnA T_ok ?_ ?_ ?_ ?_); (focus kernel_rfl); (focus kernel_rfl); (focus (decide +kernel)))
        | ((with_reducible refine aw_drawnF T_ok ?_ ?_ ?_ ?_); (focus kernel_rfl); (focus kernel_rfl); (focus (decide +kernel)))
        | (with_reducible refine aw_label ?_)
        | ((with_reducible refine aw_rfM ?_ ?_); (focus kernel_rfl))
        | (with_reducible refine aw_skip ?_)
        | (with_reducible refine aw_exit ?_)
        | ((with_reducible refine aw_condM ?_ ?_); (focus kernel_rfl))
        | (with_reducible refine aw_ret ?_)
      ); simp only [↓rwp.eq_def, ↓sop.eq_def, ↓slotK.eq_def, inV, shT, unT, inQ, rfQ, rfEnd, resOf, pickT, setP, ydA, ydQ, rowW, vD, fillV,  ↓gop.eq_def, ↓hop.eq_def, ↓hopH.eq_def, ↓hwp.eq_def, ↓ldV.eq_def, ↓ldK.eq_def, ↓ixK.eq_def, ↓addOff.eq_def, ↓exK.eq_def, ↓notK.eq_def, ↓pickK.eq_def, ↓iop2.eq_def, ↓binK.eq_def, ↓eqop.eq_def, icells, ↓iop.eq_def, ↓cutK.eq_def, ↓lenK.eq_def, ↓lenM.eq_def, tyInt, ↓lookK.eq_def, ↓mpK.eq_def, keyV, allI, fitK, lkM, upM, dlM, kq, ↓cvK.eq_def, ↓mmK.eq_def, ↓biK.eq_def, ↓stK.eq_def, ↓apK.eq_def, ↓apD.eq_def, ↓apM.eq_def, isMo, ↓apS.eq_def, nxt, put, setT, setB, delB, lkT_n, lkT_c, lkB_n, lkB_c, ev, ofC, inT, ofA, ofRet, dV_n, dV_c, getD_enc, toDs_dV, List.head?_cons, List.length_map, Option.toArray_some, Option.toArray_none, Int.toNat_natCast, slOf, TyK.agg, vcells, splice, pickOps, headF, restF, allF, zOf, strip, stripP, gOf, allP, rowV, toDs, toD, toA, toAs, headOps, tailOps, isT, addN, Op.operands, Call.operands, List.map_cons, List.map_nil, List.drop_zero, List.drop_succ_cons, List.take_succ_cons, List.take_zero, List.length_cons, List.length_nil, List.getElem?_cons_zero, List.getElem?_cons_succ, List.getElem?_toArray, Option.bind_some, Option.map_some, Option.map_none, List.append_nil, List.nil_append, List.cons_append, if_true, if_false, reduceIte, Nat.reduceEqDiff, Nat.reduceAdd, Nat.reduceSub, Int.reduceToNat, Nat.reduceLeDiff, Nat.reduceLT, and_false, and_self, Nat.zero_add, Nat.add_zero, reduceCtorEq, Option.getD_some, Option.getD_none, Option.isSome_some, Option.isSome_none, forall_const, true_and, and_true, true_implies, Bool.true_and, Bool.false_and, Bool.and_true, Bool.and_false, Bool.true_or, Bool.false_or, Bool.or_true, Bool.or_false, beq_self_eq_true, zipM, zcells, Value.cells, Value.oneCell', List.toList_toArray, Array.toList_append, Bool.not_not, List.cons.injEq, Int.reduceEq, eq_self, false_and, Bool.not_true, Bool.not_false, ne_eq, not_false_eq_true, imp_self, implies_true, av_bt, av_bf, av_and, av_or, av_nf, av_tt, av_n1, av_n2, av_t1, av_tp, retQ, retL, resV, RetV, RetOk, SubL, entD_len, entD_take, entD_hd, entD_ln, entD_ic, entD_d1, entD_d2, entD_d3, entD_d4, entD_d5, entD_d6, entD_d7, homD_len, homD_take, homD_hd, homD_ln, homD_ic, homD_d1, homD_d2, intD_len, intD_take, intD_hd, intD_ln, intD_ic, snocI, ty_39, ty_3, ty_22, ty_30, ty_4, ty_26]; try simp (disch := omega) only [av_w, av_t1, av_tp, Int.toNat_natCast]))
  all_goals exact Sub.refl _
theorem eqHome : EqInts Try.prog 26 3 := eqInts_struct (by kernel_rfl) (by kernel_rfl) (by kernel_rfl) (by kernel_rfl) (by kernel_rfl)
end Go.Proofs.Ytfmefdeldgmhpaa


namespace Go.Proofs.Ytfmefdeldgmhpaa
set_option linter.unusedSimpArgs false
set_option linter.unusedVariables false
open Go.RowKit
set_option maxRecDepth 100000
set_option maxHeartbeats 4000000
abbrev ent4 (no kind a b : Int) : Ent := ⟨no, kind, a, b, 0, 2097152, 0, 2097152⟩
theorem ex_where (l : List Ent) (p : Int) (h : HomeR) (e : Int) (hl : l.length ≤ 2) (hk : ∀ x ∈ l, i64 x.kind) (hw : whereL l p 0 0 = h) (he : errO l p 0 0 = e) : Spec Try.prog 17 [aEs l, aI p, aI 0, aI 0] (.rt [.agg (homD h), aI e]) := by
  subst hw he
  exact hwhere_spec l p 0 0 (by omega) (kindsAt hk)
theorem ex_agents (l : List Ent) (p : Int) (h : List Int) (e : Int) (hl : l.length ≤ 2) (hk : ∀ x ∈ l, i64 x.kind) (hw : agentsL l p 0 0 = h) (he : errO l p 0 0 = e) : Spec Try.prog 19 [aEs l, aI p, aI 0, aI 0] (.rt [aIs h, aI e]) := by
  subst hw he
  exact hagents_spec l p 0 0 (by omega) (kindsAt hk)
theorem nil_args {f : FuncId} {r : Ret} {p : Int} (h : Spec Try.prog f [aEs [], aI p, aI 0, aI 0] r) : Spec Try.prog f [.one (.c (.slice none 0 0)), aI p, aI 0, aI 0] r :=
  h.args ⟨Sub.nil _ _, Sub.refl _, Sub.refl _, Sub.refl _, trivial⟩
theorem hsane_spec : Spec Try.prog 15 [] (.r1 (aB true)) := by
  refine spec_of T_ok Try.func15 (by dsimp only [Try.f15]) rfl rfl (by simp) fun w F => ?_
  have s1 := nil_args (ex_where [] 5 ⟨2, 5, 0⟩ 0 (by decide) (by simp) (by decide) (by decide))
  have s2 := nil_args (ex_agents [] (-1) [] 1 (by decide) (by simp) (by decide) (by decide))
  have s3 := ex_where [ent4 0 2 3 7, ent4 1 1 7 2] 3 ⟨1, 7, 2⟩ 0 (by decide) (i64s (by decide)) (by decide) (by decide)
  have s4 := ex_agents [ent4 0 2 3 7, ent4 1 1 7 2] 3 [3, 7] 0 (by decide) (i64s (by decide)) (by decide) (by decide)
  have s5 := ex_where [ent4 0 2 3 7, ent4 1 2 7 3] 3 ⟨2, 3, 0⟩ 0 (by decide) (i64s (by decide)) (by decide) (by decide)
  have s6 := ex_agents [ent4 0 2 3 7, ent4 1 2 7 3] 3 [3, 7] 0 (by decide) (i64s (by decide)) (by decide) (by decide)
  have s7 := ex_where [ent4 0 1 3 2, ent4 1 3 3 0] 3 ⟨3, 3, 0⟩ 0 (by decide) (i64s (by decide)) (by decide) (by decide)
  have s8 := ex_where [default] 3 default 330 (by decide) (i64s (by decide)) (by decide) (by decide)
  have s9 := sameInts_spec [3, 7] [3, 7] (by decide)
  repeat' (first
    | (with_reducible refine aw_seq ?_)
    | ((with_reducible refine twoG_intro ?_ ?_) <;> intro hTw <;> first | (exact Bool.noConfusion hTw) | ((try simp only [hTw, Bool.not_true, Bool.not_false, Bool.true_and, Bool.false_and, Bool.and_true, Bool.and_false, Bool.true_or, Bool.false_or, Bool.or_true, Bool.or_false]); (first | (guard_hyp hTw : true = true; clear hTw) | (guard_hyp hTw : false = false; clear hTw) | (revert hTw; intro _))))
    | ((with_reducible refine two_intro ?_ ?_) <;> intro hTw <;> first | (exact Bool.noConfusion hTw) | ((first | (guard_hyp hTw : true = true; clear hTw) | (guard_hyp hTw : false = false; clear hTw) | (revert hTw; intro _))))
    | ((with_reducible refine And.intro ?_ ?_); (focus (first | exact eqHome | omega | rfl | decide | grind)))
    | (with_reducible refine aw_block ?_)
    | (with_reducible refine aw_scope ?_)
    | ((first
        | ((with_reducible refine aw_regionA T_ok ?_ ?_); (focus kernel_rfl))
        | ((with_reducible refine aw_drawnA T_ok ?_ ?_ ?_ ?_); (focus kernel_rfl); (focus kernel_rfl); (focus (decide +kernel)))
        | ((with_reducible refine aw_drawnF T_ok ?_ ?_ ?_ ?_); (focus kernel_rfl); (focus kernel_rfl); (focus (decide +kernel)))
        | ((with_reducible refine callK_intro (hentry_spec _ _ _ _) (by with_unfolding_all rfl) ?_ ?_); (focus kernel_rfl))
        | ((with_reducible refine callI_spec (hentry_spec _ _ _ _) (by with_unfolding_all rfl) ?_ ?_ ?_); (focus kernel_rfl); (focus kernel_rfl))
        | ((with_reducible refine callK_intro (s1) (by with_unfolding_all rfl) ?_ ?_); (focus kernel_rfl))
        | ((with_reducible refine callI_spec (s1) (by with_unfolding_all rfl) ?_ ?_ ?_); (focus kernel_rfl); (focus kernel_rfl))
        | ((with_reducible refine callK_intro (s2) (by with_unfolding_all rfl) ?_ ?_); (focus kernel_rfl))
        | ((with_reducible refine callI_spec (s2) (by with_unfolding_all rfl) ?_ ?_ ?_); (focus kernel_rfl); (focus kernel_rfl))
        | ((with_reducible refine callK_intro (s3) (by with_unfolding_all rfl) ?_ ?_); (focus kernel_rfl))
        | ((with_reducible refine callI_spec (s3) (by with_unfolding_all rfl) ?_ ?_ ?_); (focus kernel_rfl); (focus kernel_rfl))
        | ((with_reducible refine callK_intro (s4) (by with_unfolding_all rfl) ?_ ?_); (focus kernel_rfl))
        | ((with_reducible refine callI_spec (s4) (by with_unfolding_all rfl) ?_ ?_ ?_); (focus kernel_rfl); (focus kernel_rfl))
        | ((with_reducible refine callK_intro (s5) (by with_unfolding_all rfl) ?_ ?_); (focus kernel_rfl))
        | ((with_reducible refine callI_spec (s5) (by with_unfolding_all rfl) ?_ ?_ ?_); (focus kernel_rfl); (focus kernel_rfl))
        | ((with_reducible refine callK_intro (s6) (by with_unfolding_all rfl) ?_ ?_); (focus kernel_rfl))
        | ((with_reducible refine callI_spec (s6) (by with_unfolding_all rfl) ?_ ?_ ?_); (focus kernel_rfl); (focus kernel_rfl))
        | ((with_reducible refine callK_intro (s7) (by with_unfolding_all rfl) ?_ ?_); (focus kernel_rfl))
        | ((with_reducible refine callI_spec (s7) (by with_unfolding_all rfl) ?_ ?_ ?_); (focus kernel_rfl); (focus kernel_rfl))
        | ((with_reducible refine callK_intro (s8) (by with_unfolding_all rfl) ?_ ?_); (focus kernel_rfl))
        | ((with_reducible refine callI_spec (s8) (by with_unfolding_all rfl) ?_ ?_ ?_); (focus kernel_rfl); (focus kernel_rfl))
        | ((with_reducible refine callK_intro (s9) (by with_unfolding_all rfl) ?_ ?_); (focus kernel_rfl))
        | ((with_reducible refine callI_spec (s9) (by with_unfolding_all rfl) ?_ ?_ ?_); (focus kernel_rfl); (focus kernel_rfl))
        | (with_reducible refine aw_label ?_)
        | ((with_reducible refine aw_rfM ?_ ?_); (focus kernel_rfl))
        | (with_reducible refine aw_skip ?_)
        | (with_reducible refine aw_exit ?_)
        | ((with_reducible refine aw_condM ?_ ?_); (focus kernel_rfl))
        | (with_reducible refine aw_ret ?_)
      ); simp only [↓rwp.eq_def, ↓sop.eq_def, ↓slotK.eq_def, inV, shT, unT, inQ, rfQ, rfEnd, resOf, pickT, setP, ydA, ydQ, rowW, vD, fillV,  ↓gop.eq_def, ↓hop.eq_def, ↓hopH.eq_def, ↓hwp.eq_def, ↓ldV.eq_def, ↓ldK.eq_def, ↓ixK.eq_def, ↓addOff.eq_def, ↓exK.eq_def, ↓notK.eq_def, ↓pickK.eq_def, ↓iop2.eq_def, ↓binK.eq_def, ↓eqop.eq_def, icells, ↓iop.eq_def, ↓cutK.eq_def, ↓lenK.eq_def, ↓lenM.eq_def, tyInt, ↓lookK.eq_def, ↓mpK.eq_def, keyV, allI, fitK, lkM, upM, dlM, kq, ↓cvK.eq_def, ↓mmK.eq_def, ↓biK.eq_def, ↓stK.eq_def, ↓apK.eq_def, ↓apD.eq_def, ↓apM.eq_def, isMo, ↓apS.eq_def, nxt, put, setT, setB, delB, lkT_n, lkT_c, lkB_n, lkB_c, ev, ofC, inT, ofA, ofRet, dV_n, dV_c, getD_enc, toDs_dV, List.head?_cons, List.length_map, Option.toArray_some, Option.toArray_none, Int.toNat_natCast, slOf, TyK.agg, vcells, splice, pickOps, headF, restF, allF, zOf, strip, stripP, gOf, allP, rowV, toDs, toD, toA, toAs, headOps, tailOps, isT, addN, Op.operands, Call.operands, List.map_cons, List.map_nil, List.drop_zero, List.drop_succ_cons, List.take_succ_cons, List.take_zero, List.length_cons, List.length_nil, List.getElem?_cons_zero, List.getElem?_cons_succ, List.getElem?_toArray, Option.bind_some, Option.map_some, Option.map_none, List.append_nil, List.nil_append, List.cons_append, if_true, if_false, reduceIte, Nat.reduceEqDiff, Nat.reduceAdd, Nat.reduceSub, Int.reduceToNat, Nat.reduceLeDiff, Nat.reduceLT, and_false, and_self, Nat.zero_add, Nat.add_zero, reduceCtorEq, Option.getD_some, Option.getD_none, Option.isSome_some, Option.isSome_none, forall_const, true_and, and_true, true_implies, Bool.true_and, Bool.false_and, Bool.and_true, Bool.and_false, Bool.true_or, Bool.false_or, Bool.or_true, Bool.or_false, beq_self_eq_true, zipM, zcells, Value.cells, Value.oneCell', List.toList_toArray, Array.toList_append, Bool.not_not, List.cons.injEq, Int.reduceEq, eq_self, false_and, Bool.not_true, Bool.not_false, ne_eq, not_false_eq_true, imp_self, implies_true, av_bt, av_bf, av_and, av_or, av_nf, av_tt, av_n1, av_n2, av_t1, av_tp, retQ, retL, resV, RetV, RetOk, SubL, entD_len, entD_take, entD_hd, entD_ln, entD_ic, entD_d1, entD_d2, entD_d3, entD_d4, entD_d5, entD_d6, entD_d7, homD_len, homD_take, homD_hd, homD_ln, homD_ic, homD_d1, homD_d2, intD_len, intD_take, intD_hd, intD_ln, intD_ic, snocI, ty_39, ty_3, ty_22, ty_30, ty_4, ty_26]; try simp (disch := omega) only [av_w, av_t1, av_tp, Int.toNat_natCast]))
  exact Sub.of_eq (congrArg aB (by decide))
end Go.Proofs.Ytfmefdeldgmhpaa

