import Derived.Test.YtfmefdeldgmhpaaRO7
import Derived.Test.YtfmefdeldgmhpaaRO3
namespace Go.Proofs.Ytfmefdeldgmhpaa
set_option linter.unusedSimpArgs false
set_option linter.unusedVariables false
open Go.RowKit
theorem snocE (es : List Ent) (y : Ent) : es.map entD ++ [entD y] = (es ++ [y]).map entD := by simp
set_option maxRecDepth 100000
set_option maxHeartbeats 4000000
theorem validE_idR {x : Ent} (h : validE x = true) : idR x.no := by
  simp only [validE, fitsB, idB] at h
  unfold idR
  grind
theorem gadd_spec (l : List Ent) (x : Ent) (hl : l.length ≤ 140737488351232) (hk : ∀ k, i64 (l.getD k default).kind) (hx : i64 x.kind) : Spec Try.prog 31 [aEs l, .agg (entD x)] (.rt [aEs (addL l x), aI (errA l x)]) := by
  refine spec_of T_ok Try.func31 (by dsimp only [Try.f31]) rfl rfl (by simp) fun w F => ?_
  by_cases h1 : checkL l = 0
  · obtain ⟨hc1, hc2, hc3⟩ := checkL_ok h1
    by_cases h2 : validE x = true
    · have he : err1 x = 0 := by rw [err1, if_pos h2]
      have hB := bsE_spec l x.no hc1 (validE_idR h2) (fun y hy => validE_idR (hc3 y hy)) hc2
      have hfa := foundE_any x.no hc2
      cases hf : foundE l x.no with
      | true =>
        repeat' (first
          | (with_reducible refine aw_seq ?_)
          | ((with_reducible refine twoG_intro ?_ ?_) <;> intro hTw <;> first | (exact Bool.noConfusion hTw) | ((try simp only [hTw, Bool.not_true, Bool.not_false, Bool.true_and, Bool.false_and, Bool.and_true, Bool.and_false, Bool.true_or, Bool.false_or, Bool.or_true, Bool.or_false]); (first | (guard_hyp hTw : true = true; clear hTw) | (guard_hyp hTw : false = false; clear hTw) | (revert hTw; intro _))))
          | ((with_reducible refine two_intro ?_ ?_) <;> intro hTw <;> first | (exact Bool.noConfusion hTw) | ((first | (guard_hyp hTw : true = true; clear hTw) | (guard_hyp hTw : false = false; clear hTw) | (revert hTw; intro _))))
          | ((with_reducible refine And.intro ?_ ?_); (focus (first | exact eqEnt_ | omega | rfl | decide | grind)))
          | (with_reducible refine aw_block ?_)
          | (with_reducible refine aw_scope ?_)
          | ((first
              | ((with_reducible refine aw_regionA T_ok ?_ ?_); (focus kernel_rfl))
              | ((with_reducible refine aw_drawnA T_ok ?_ ?_ ?_ ?_); (focus kernel_rfl); (focus kernel_rfl); (focus (decide +kernel)))
              | ((with_reducible refine aw_drawnF T_ok ?_ ?_ ?_ ?_); (focus kernel_rfl); (focus kernel_rfl); (focus (decide +kernel)))
              | ((with_reducible refine callK_intro (gcheck_spec l hl hk) (by with_unfolding_all rfl) ?_ ?_); (focus kernel_rfl))
              | ((with_reducible refine callI_spec (gcheck_spec l hl hk) (by with_unfolding_all rfl) ?_ ?_ ?_); (focus kernel_rfl); (focus kernel_rfl))
              | ((with_reducible refine callK_intro (gcheck1_spec x hx) (by with_unfolding_all rfl) ?_ ?_); (focus kernel_rfl))
              | ((with_reducible refine callI_spec (gcheck1_spec x hx) (by with_unfolding_all rfl) ?_ ?_ ?_); (focus kernel_rfl); (focus kernel_rfl))
              | ((with_reducible refine callK_intro (hB) (by with_unfolding_all rfl) ?_ ?_); (focus kernel_rfl))
              | ((with_reducible refine callI_spec (hB) (by with_unfolding_all rfl) ?_ ?_ ?_); (focus kernel_rfl); (focus kernel_rfl))
              | (with_reducible refine aw_label ?_)
              | ((with_reducible refine aw_rfM ?_ ?_); (focus kernel_rfl))
              | (with_reducible refine aw_skip ?_)
              | (with_reducible refine aw_exit ?_)
              | ((with_reducible refine aw_condM ?_ ?_); (focus kernel_rfl))
              | (with_reducible refine aw_ret ?_)
            ); simp only [↓rwp.eq_def, ↓sop.eq_def, ↓slotK.eq_def, inV, shT, unT, inQ, rfQ, rfEnd, resOf, pickT, setP, ydA, ydQ, rowW, vD, fillV,  ↓gop.eq_def, ↓hop.eq_def, ↓hopH.eq_def, ↓hwp.eq_def, ↓ldV.eq_def, ↓ldK.eq_def, ↓ixK.eq_def, ↓addOff.eq_def, ↓exK.eq_def, ↓notK.eq_def, ↓pickK.eq_def, ↓iop2.eq_def, ↓binK.eq_def, ↓eqop.eq_def, icells, ↓iop.eq_def, ↓cutK.eq_def, ↓lenK.eq_def, ↓lenM.eq_def, tyInt, ↓lookK.eq_def, ↓mpK.eq_def, keyV, allI, fitK, lkM, upM, dlM, kq, ↓cvK.eq_def, ↓mmK.eq_def, ↓biK.eq_def, ↓stK.eq_def, ↓apK.eq_def, ↓apD.eq_def, ↓apM.eq_def, isMo, ↓apS.eq_def, nxt, put, setT, setB, delB, lkT_n, lkT_c, lkB_n, lkB_c, ev, ofC, inT, ofA, ofRet, dV_n, dV_c, getD_enc, toDs_dV, List.head?_cons, List.length_map, Option.toArray_some, Option.toArray_none, Int.toNat_natCast, slOf, TyK.agg, vcells, splice, pickOps, headF, restF, allF, zOf, strip, stripP, gOf, allP, rowV, toDs, toD, toA, toAs, headOps, tailOps, isT, addN, Op.operands, Call.operands, List.map_cons, List.map_nil, List.drop_zero, List.drop_succ_cons, List.take_succ_cons, List.take_zero, List.length_cons, List.length_nil, List.getElem?_cons_zero, List.getElem?_cons_succ, List.getElem?_toArray, Option.bind_some, Option.map_some, Option.map_none, List.append_nil, List.nil_append, List.cons_append, if_true, if_false, reduceIte, Nat.reduceEqDiff, Nat.reduceAdd, Nat.reduceSub, Int.reduceToNat, Nat.reduceLeDiff, Nat.reduceLT, and_false, and_self, Nat.zero_add, Nat.add_zero, reduceCtorEq, Option.getD_some, Option.getD_none, Option.isSome_some, Option.isSome_none, forall_const, true_and, and_true, true_implies, Bool.true_and, Bool.false_and, Bool.and_true, Bool.and_false, Bool.true_or, Bool.false_or, Bool.or_true, Bool.or_false, beq_self_eq_true, zipM, zcells, Value.cells, Value.oneCell', List.toList_toArray, Array.toList_append, Bool.not_not, List.cons.injEq, Int.reduceEq, eq_self, false_and, Bool.not_true, Bool.not_false, ne_eq, not_false_eq_true, imp_self, implies_true, av_bt, av_bf, av_and, av_or, av_nf, av_tt, av_n1, av_n2, av_t1, av_tp, retQ, retL, resV, RetV, RetOk, SubL, snocE, entD_len, entD_take, entD_hd, entD_ln, entD_ic, entD_d1, entD_d2, entD_d3, entD_d4, entD_d5, entD_d6, entD_d7, ty_39, ty_3, ty_22, ty_4, ty_91, h1, he, hf]; try simp (disch := omega) only [av_w, av_t1, av_tp, Int.toNat_natCast]))
        have : errA l x = 181 := by rw [errA, if_neg (by omega), if_neg (by simp [h2]), if_pos (by rw [← hfa, hf])]
        rw [addL, this, if_neg (by decide)]
        exact ⟨Sub.nil _ _, Sub.refl _⟩
      | false =>
        have hn : ¬ (l.any fun y => y.no == x.no) = true := by rw [← hfa, hf]; simp
        by_cases h3 : l.length = 1024
        · have hd : ((l.length : Int) == 1024) = true := by simp; omega
          repeat' (first
            | (with_reducible refine aw_seq ?_)
            | ((with_reducible refine twoG_intro ?_ ?_) <;> intro hTw <;> first | (exact Bool.noConfusion hTw) | ((try simp only [hTw, Bool.not_true, Bool.not_false, Bool.true_and, Bool.false_and, Bool.and_true, Bool.and_false, Bool.true_or, Bool.false_or, Bool.or_true, Bool.or_false]); (first | (guard_hyp hTw : true = true; clear hTw) | (guard_hyp hTw : false = false; clear hTw) | (revert hTw; intro _))))
            | ((with_reducible refine two_intro ?_ ?_) <;> intro hTw <;> first | (exact Bool.noConfusion hTw) | ((first | (guard_hyp hTw : true = true; clear hTw) | (guard_hyp hTw : false = false; clear hTw) | (revert hTw; intro _))))
            | ((with_reducible refine And.intro ?_ ?_); (focus (first | exact eqEnt_ | omega | rfl | decide | grind)))
            | (with_reducible refine aw_block ?_)
            | (with_reducible refine aw_scope ?_)
            | ((first
                | ((with_reducible refine aw_regionA T_ok ?_ ?_); (focus kernel_rfl))
                | ((with_reducible refine aw_drawnA T_ok ?_ ?_ ?_ ?_); (focus kernel_rfl); (focus kernel_rfl); (focus (decide +kernel)))
                | ((with_reducible refine aw_drawnF T_ok ?_ ?_ ?_ ?_); (focus kernel_rfl); (focus kernel_rfl); (focus (decide +kernel)))
                | ((with_reducible refine callK_intro (gcheck_spec l hl hk) (by with_unfolding_all rfl) ?_ ?_); (focus kernel_rfl))
                | ((with_reducible refine callI_spec (gcheck_spec l hl hk) (by with_unfolding_all rfl) ?_ ?_ ?_); (focus kernel_rfl); (focus kernel_rfl))
                | ((with_reducible refine callK_intro (gcheck1_spec x hx) (by with_unfolding_all rfl) ?_ ?_); (focus kernel_rfl))
                | ((with_reducible refine callI_spec (gcheck1_spec x hx) (by with_unfolding_all rfl) ?_ ?_ ?_); (focus kernel_rfl); (focus kernel_rfl))
                | ((with_reducible refine callK_intro (hB) (by with_unfolding_all rfl) ?_ ?_); (focus kernel_rfl))
                | ((with_reducible refine callI_spec (hB) (by with_unfolding_all rfl) ?_ ?_ ?_); (focus kernel_rfl); (focus kernel_rfl))
                | (with_reducible refine aw_label ?_)
                | ((with_reducible refine aw_rfM ?_ ?_); (focus kernel_rfl))
                | (with_reducible refine aw_skip ?_)
                | (with_reducible refine aw_exit ?_)
                | ((with_reducible refine aw_condM ?_ ?_); (focus kernel_rfl))
                | (with_reducible refine aw_ret ?_)
              ); simp only [↓rwp.eq_def, ↓sop.eq_def, ↓slotK.eq_def, inV, shT, unT, inQ, rfQ, rfEnd, resOf, pickT, setP, ydA, ydQ, rowW, vD, fillV,  ↓gop.eq_def, ↓hop.eq_def, ↓hopH.eq_def, ↓hwp.eq_def, ↓ldV.eq_def, ↓ldK.eq_def, ↓ixK.eq_def, ↓addOff.eq_def, ↓exK.eq_def, ↓notK.eq_def, ↓pickK.eq_def, ↓iop2.eq_def, ↓binK.eq_def, ↓eqop.eq_def, icells, ↓iop.eq_def, ↓cutK.eq_def, ↓lenK.eq_def, ↓lenM.eq_def, tyInt, ↓lookK.eq_def, ↓mpK.eq_def, keyV, allI, fitK, lkM, upM, dlM, kq, ↓cvK.eq_def, ↓mmK.eq_def, ↓biK.eq_def, ↓stK.eq_def, ↓apK.eq_def, ↓apD.eq_def, ↓apM.eq_def, isMo, ↓apS.eq_def, nxt, put, setT, setB, delB, lkT_n, lkT_c, lkB_n, lkB_c, ev, ofC, inT, ofA, ofRet, dV_n, dV_c, getD_enc, toDs_dV, List.head?_cons, List.length_map, Option.toArray_some, Option.toArray_none, Int.toNat_natCast, slOf, TyK.agg, vcells, splice, pickOps, headF, restF, allF, zOf, strip, stripP, gOf, allP, rowV, toDs, toD, toA, toAs, headOps, tailOps, isT, addN, Op.operands, Call.operands, List.map_cons, List.map_nil, List.drop_zero, List.drop_succ_cons, List.take_succ_cons, List.take_zero, List.length_cons, List.length_nil, List.getElem?_cons_zero, List.getElem?_cons_succ, List.getElem?_toArray, Option.bind_some, Option.map_some, Option.map_none, List.append_nil, List.nil_append, List.cons_append, if_true, if_false, reduceIte, Nat.reduceEqDiff, Nat.reduceAdd, Nat.reduceSub, Int.reduceToNat, Nat.reduceLeDiff, Nat.reduceLT, and_false, and_self, Nat.zero_add, Nat.add_zero, reduceCtorEq, Option.getD_some, Option.getD_none, Option.isSome_some, Option.isSome_none, forall_const, true_and, and_true, true_implies, Bool.true_and, Bool.false_and, Bool.and_true, Bool.and_false, Bool.true_or, Bool.false_or, Bool.or_true, Bool.or_false, beq_self_eq_true, zipM, zcells, Value.cells, Value.oneCell', List.toList_toArray, Array.toList_append, Bool.not_not, List.cons.injEq, Int.reduceEq, eq_self, false_and, Bool.not_true, Bool.not_false, ne_eq, not_false_eq_true, imp_self, implies_true, av_bt, av_bf, av_and, av_or, av_nf, av_tt, av_n1, av_n2, av_t1, av_tp, retQ, retL, resV, RetV, RetOk, SubL, snocE, entD_len, entD_take, entD_hd, entD_ln, entD_ic, entD_d1, entD_d2, entD_d3, entD_d4, entD_d5, entD_d6, entD_d7, ty_39, ty_3, ty_22, ty_4, ty_91, h1, he, hf, hd]; try simp (disch := omega) only [av_w, av_t1, av_tp, Int.toNat_natCast]))
          have : errA l x = 2 := by rw [errA, if_neg (by omega), if_neg (by simp [h2]), if_neg hn, if_pos h3]
          rw [addL, this, if_neg (by decide)]
          exact ⟨Sub.nil _ _, Sub.refl _⟩
        · have hd : ((l.length : Int) == 1024) = false := by simp; omega
          repeat' (first
            | (with_reducible refine aw_seq ?_)
            | ((with_reducible refine twoG_intro ?_ ?_) <;> intro hTw <;> first | (exact Bool.noConfusion hTw) | ((try simp only [hTw, Bool.not_true, Bool.not_false, Bool.true_and, Bool.false_and, Bool.and_true, Bool.and_false, Bool.true_or, Bool.false_or, Bool.or_true, Bool.or_false]); (first | (guard_hyp hTw : true = true; clear hTw) | (guard_hyp hTw : false = false; clear hTw) | (revert hTw; intro _))))
            | ((with_reducible refine two_intro ?_ ?_) <;> intro hTw <;> first | (exact Bool.noConfusion hTw) | ((first | (guard_hyp hTw : true = true; clear hTw) | (guard_hyp hTw : false = false; clear hTw) | (revert hTw; intro _))))
            | ((with_reducible refine And.intro ?_ ?_); (focus (first | exact eqEnt_ | omega | rfl | decide | grind)))
            | (with_reducible refine aw_block ?_)
            | (with_reducible refine aw_scope ?_)
            | ((first
                | ((with_reducible refine aw_regionA T_ok ?_ ?_); (focus kernel_rfl))
                | ((with_reducible refine aw_drawnX [0,1,2,3,4] [5,6,7] T_ok ?_ ?_ ?_ ?_); (focus kernel_rfl); (focus kernel_rfl); (focus (decide +kernel)))
                | ((with_reducible refine aw_drawnA T_ok ?_ ?_ ?_ ?_); (focus kernel_rfl); (focus kernel_rfl); (focus (decide +kernel)))
                | ((with_reducible refine aw_drawnF T_ok ?_ ?_ ?_ ?_); (focus kernel_rfl); (focus kernel_rfl); (focus (decide +kernel)))
                | ((with_reducible refine callK_intro (gcheck_spec l hl hk) (by with_unfolding_all rfl) ?_ ?_); (focus kernel_rfl))
                | ((with_reducible refine callI_spec (gcheck_spec l hl hk) (by with_unfolding_all rfl) ?_ ?_ ?_); (focus kernel_rfl); (focus kernel_rfl))
                | ((with_reducible refine callK_intro (gcheck1_spec x hx) (by with_unfolding_all rfl) ?_ ?_); (focus kernel_rfl))
                | ((with_reducible refine callI_spec (gcheck1_spec x hx) (by with_unfolding_all rfl) ?_ ?_ ?_); (focus kernel_rfl); (focus kernel_rfl))
                | ((with_reducible refine callK_intro (hB) (by with_unfolding_all rfl) ?_ ?_); (focus kernel_rfl))
                | ((with_reducible refine callI_spec (hB) (by with_unfolding_all rfl) ?_ ?_ ?_); (focus kernel_rfl); (focus kernel_rfl))
                | ((with_reducible refine callK_intro (cloneE_spec (l.map entD) (entD default) (entD default) (by rw [List.length_map]; omega)) (by with_unfolding_all rfl) ?_ ?_); (focus kernel_rfl))
                | ((with_reducible refine callK_own (cloneE_spec (l.map entD) (entD default) (entD default) (by rw [List.length_map]; omega)) (by with_unfolding_all rfl) ?_ ?_); (focus kernel_rfl))
                | ((with_reducible refine callI_spec (cloneE_spec (l.map entD) (entD default) (entD default) (by rw [List.length_map]; omega)) (by with_unfolding_all rfl) ?_ ?_ ?_); (focus kernel_rfl); (focus kernel_rfl))
                | (with_reducible refine aw_label ?_)
                | ((with_reducible refine aw_rfM ?_ ?_); (focus kernel_rfl))
                | (with_reducible refine aw_skip ?_)
                | (with_reducible refine aw_exit ?_)
                | ((with_reducible refine aw_condM ?_ ?_); (focus kernel_rfl))
                | (with_reducible refine aw_ret ?_)
              ); simp only [↓rwp.eq_def, ↓sop.eq_def, ↓slotK.eq_def, inV, shT, unT, inQ, rfQ, rfEnd, resOf, pickT, setP, ydA, ydQ, rowW, vD, fillV,  ↓gop.eq_def, ↓hop.eq_def, ↓hopH.eq_def, ↓hwp.eq_def, ↓ldV.eq_def, ↓ldK.eq_def, ↓ixK.eq_def, ↓addOff.eq_def, ↓exK.eq_def, ↓notK.eq_def, ↓pickK.eq_def, ↓iop2.eq_def, ↓binK.eq_def, ↓eqop.eq_def, icells, ↓iop.eq_def, ↓cutK.eq_def, ↓lenK.eq_def, ↓lenM.eq_def, tyInt, ↓lookK.eq_def, ↓mpK.eq_def, keyV, allI, fitK, lkM, upM, dlM, kq, ↓cvK.eq_def, ↓mmK.eq_def, ↓biK.eq_def, ↓stK.eq_def, ↓apK.eq_def, ↓apD.eq_def, ↓apM.eq_def, isMo, ↓apS.eq_def, nxt, put, setT, setB, delB, lkT_n, lkT_c, lkB_n, lkB_c, ev, ofC, inT, ofA, ofRet, dV_n, dV_c, getD_enc, toDs_dV, List.head?_cons, List.length_map, Option.toArray_some, Option.toArray_none, Int.toNat_natCast, slOf, TyK.agg, vcells, splice, pickOps, headF, restF, allF, zOf, strip, stripP, gOf, allP, rowV, toDs, toD, toA, toAs, headOps, tailOps, isT, addN, Op.operands, Call.operands, List.map_cons, List.map_nil, List.drop_zero, List.drop_succ_cons, List.take_succ_cons, List.take_zero, List.length_cons, List.length_nil, List.getElem?_cons_zero, List.getElem?_cons_succ, List.getElem?_toArray, Option.bind_some, Option.map_some, Option.map_none, List.append_nil, List.nil_append, List.cons_append, if_true, if_false, reduceIte, Nat.reduceEqDiff, Nat.reduceAdd, Nat.reduceSub, Int.reduceToNat, Nat.reduceLeDiff, Nat.reduceLT, and_false, and_self, Nat.zero_add, Nat.add_zero, reduceCtorEq, Option.getD_some, Option.getD_none, Option.isSome_some, Option.isSome_none, forall_const, true_and, and_true, true_implies, Bool.true_and, Bool.false_and, Bool.and_true, Bool.and_false, Bool.true_or, Bool.false_or, Bool.or_true, Bool.or_false, beq_self_eq_true, zipM, zcells, Value.cells, Value.oneCell', List.toList_toArray, Array.toList_append, Bool.not_not, List.cons.injEq, Int.reduceEq, eq_self, false_and, Bool.not_true, Bool.not_false, ne_eq, not_false_eq_true, imp_self, implies_true, av_bt, av_bf, av_and, av_or, av_nf, av_tt, av_n1, av_n2, av_t1, av_tp, retQ, retL, resV, RetV, RetOk, SubL, snocE, entD_len, entD_take, entD_hd, entD_ln, entD_ic, entD_d1, entD_d2, entD_d3, entD_d4, entD_d5, entD_d6, entD_d7, ty_39, ty_3, ty_22, ty_4, ty_91, h1, he, hf, hd]; try simp (disch := omega) only [av_w, av_t1, av_tp, Int.toNat_natCast]))
          refine callI_insE (n := 2) (m := 5) (i := lbE l x.no) (es := l.map entD) (x := entD x) (dd := entD default) rfl rfl rfl (by decide) (by rw [List.length_map]; exact lbE_le l x.no) (by rw [List.length_map]; omega) (fun y hy => by obtain ⟨e, _, rfl⟩ := List.mem_map.1 hy; rfl) rfl ?_
          simp only [↓rwp.eq_def, ↓sop.eq_def, ↓slotK.eq_def, inV, shT, unT, inQ, rfQ, rfEnd, resOf, pickT, setP, ydA, ydQ, rowW, vD, fillV,  ↓gop.eq_def, ↓hop.eq_def, ↓hopH.eq_def, ↓hwp.eq_def, ↓ldV.eq_def, ↓ldK.eq_def, ↓ixK.eq_def, ↓addOff.eq_def, ↓exK.eq_def, ↓notK.eq_def, ↓pickK.eq_def, ↓iop2.eq_def, ↓binK.eq_def, ↓eqop.eq_def, icells, ↓iop.eq_def, ↓cutK.eq_def, ↓lenK.eq_def, ↓lenM.eq_def, tyInt, ↓lookK.eq_def, ↓mpK.eq_def, keyV, allI, fitK, lkM, upM, dlM, kq, ↓cvK.eq_def, ↓mmK.eq_def, ↓biK.eq_def, ↓stK.eq_def, ↓apK.eq_def, ↓apD.eq_def, ↓apM.eq_def, isMo, ↓apS.eq_def, nxt, put, setT, setB, delB, lkT_n, lkT_c, lkB_n, lkB_c, ev, ofC, inT, ofA, ofRet, dV_n, dV_c, getD_enc, toDs_dV, List.head?_cons, List.length_map, Option.toArray_some, Option.toArray_none, Int.toNat_natCast, slOf, TyK.agg, vcells, splice, pickOps, headF, restF, allF, zOf, strip, stripP, gOf, allP, rowV, toDs, toD, toA, toAs, headOps, tailOps, isT, addN, Op.operands, Call.operands, List.map_cons, List.map_nil, List.drop_zero, List.drop_succ_cons, List.take_succ_cons, List.take_zero, List.length_cons, List.length_nil, List.getElem?_cons_zero, List.getElem?_cons_succ, List.getElem?_toArray, Option.bind_some, Option.map_some, Option.map_none, List.append_nil, List.nil_append, List.cons_append, if_true, if_false, reduceIte, Nat.reduceEqDiff, Nat.reduceAdd, Nat.reduceSub, Int.reduceToNat, Nat.reduceLeDiff, Nat.reduceLT, and_false, and_self, Nat.zero_add, Nat.add_zero, reduceCtorEq, Option.getD_some, Option.getD_none, Option.isSome_some, Option.isSome_none, forall_const, true_and, and_true, true_implies, Bool.true_and, Bool.false_and, Bool.and_true, Bool.and_false, Bool.true_or, Bool.false_or, Bool.or_true, Bool.or_false, beq_self_eq_true, zipM, zcells, Value.cells, Value.oneCell', List.toList_toArray, Array.toList_append, Bool.not_not, List.cons.injEq, Int.reduceEq, eq_self, false_and, Bool.not_true, Bool.not_false, ne_eq, not_false_eq_true, imp_self, implies_true, av_bt, av_bf, av_and, av_or, av_nf, av_tt, av_n1, av_n2, av_t1, av_tp, entD_len, entD_take, entD_hd, entD_ln, entD_ic, entD_d1, entD_d2, entD_d3, entD_d4, entD_d5, entD_d6, entD_d7]
          repeat' (first
            | (with_reducible refine aw_seq ?_)
            | ((with_reducible refine twoG_intro ?_ ?_) <;> intro hTw <;> first | (exact Bool.noConfusion hTw) | ((try simp only [hTw, Bool.not_true, Bool.not_false, Bool.true_and, Bool.false_and, Bool.and_true, Bool.and_false, Bool.true_or, Bool.false_or, Bool.or_true, Bool.or_false]); (first | (guard_hyp hTw : true = true; clear hTw) | (guard_hyp hTw : false = false; clear hTw) | (revert hTw; intro _))))
            | ((with_reducible refine two_intro ?_ ?_) <;> intro hTw <;> first | (exact Bool.noConfusion hTw) | ((first | (guard_hyp hTw : true = true; clear hTw) | (guard_hyp hTw : false = false; clear hTw) | (revert hTw; intro _))))
            | ((with_reducible refine And.intro ?_ ?_); (focus (first | exact eqEnt_ | omega | rfl | decide | grind)))
            | (with_reducible refine aw_block ?_)
            | (with_reducible refine aw_scope ?_)
            | ((first
                | ((with_reducible refine aw_regionA T_ok ?_ ?_); (focus kernel_rfl))
                | ((with_reducible refine aw_drawnA T_ok ?_ ?_ ?_ ?_); (focus kernel_rfl); (focus kernel_rfl); (focus (decide +kernel)))
                | ((with_reducible refine aw_drawnF T_ok ?_ ?_ ?_ ?_); (focus kernel_rfl); (focus kernel_rfl); (focus (decide +kernel)))
                | (with_reducible refine aw_label ?_)
                | ((with_reducible refine aw_rfM ?_ ?_); (focus kernel_rfl))
                | (with_reducible refine aw_skip ?_)
                | (with_reducible refine aw_exit ?_)
                | ((with_reducible refine aw_condM ?_ ?_); (focus kernel_rfl))
                | (with_reducible refine aw_ret ?_)
              ); simp only [↓rwp.eq_def, ↓sop.eq_def, ↓slotK.eq_def, inV, shT, unT, inQ, rfQ, rfEnd, resOf, pickT, setP, ydA, ydQ, rowW, vD, fillV,  ↓gop.eq_def, ↓hop.eq_def, ↓hopH.eq_def, ↓hwp.eq_def, ↓ldV.eq_def, ↓ldK.eq_def, ↓ixK.eq_def, ↓addOff.eq_def, ↓exK.eq_def, ↓notK.eq_def, ↓pickK.eq_def, ↓iop2.eq_def, ↓binK.eq_def, ↓eqop.eq_def, icells, ↓iop.eq_def, ↓cutK.eq_def, ↓lenK.eq_def, ↓lenM.eq_def, tyInt, ↓lookK.eq_def, ↓mpK.eq_def, keyV, allI, fitK, lkM, upM, dlM, kq, ↓cvK.eq_def, ↓mmK.eq_def, ↓biK.eq_def, ↓stK.eq_def, ↓apK.eq_def, ↓apD.eq_def, ↓apM.eq_def, isMo, ↓apS.eq_def, nxt, put, setT, setB, delB, lkT_n, lkT_c, lkB_n, lkB_c, ev, ofC, inT, ofA, ofRet, dV_n, dV_c, getD_enc, toDs_dV, List.head?_cons, List.length_map, Option.toArray_some, Option.toArray_none, Int.toNat_natCast, slOf, TyK.agg, vcells, splice, pickOps, headF, restF, allF, zOf, strip, stripP, gOf, allP, rowV, toDs, toD, toA, toAs, headOps, tailOps, isT, addN, Op.operands, Call.operands, List.map_cons, List.map_nil, List.drop_zero, List.drop_succ_cons, List.take_succ_cons, List.take_zero, List.length_cons, List.length_nil, List.getElem?_cons_zero, List.getElem?_cons_succ, List.getElem?_toArray, Option.bind_some, Option.map_some, Option.map_none, List.append_nil, List.nil_append, List.cons_append, if_true, if_false, reduceIte, Nat.reduceEqDiff, Nat.reduceAdd, Nat.reduceSub, Int.reduceToNat, Nat.reduceLeDiff, Nat.reduceLT, and_false, and_self, Nat.zero_add, Nat.add_zero, reduceCtorEq, Option.getD_some, Option.getD_none, Option.isSome_some, Option.isSome_none, forall_const, true_and, and_true, true_implies, Bool.true_and, Bool.false_and, Bool.and_true, Bool.and_false, Bool.true_or, Bool.false_or, Bool.or_true, Bool.or_false, beq_self_eq_true, zipM, zcells, Value.cells, Value.oneCell', List.toList_toArray, Array.toList_append, Bool.not_not, List.cons.injEq, Int.reduceEq, eq_self, false_and, Bool.not_true, Bool.not_false, ne_eq, not_false_eq_true, imp_self, implies_true, av_bt, av_bf, av_and, av_or, av_nf, av_tt, av_n1, av_n2, av_t1, av_tp, retQ, retL, resV, RetV, RetOk, SubL, snocE, entD_len, entD_take, entD_hd, entD_ln, entD_ic, entD_d1, entD_d2, entD_d3, entD_d4, entD_d5, entD_d6, entD_d7, ty_39, ty_3, ty_22, ty_4, ty_91]; try simp (disch := omega) only [av_w, av_t1, av_tp, Int.toNat_natCast]))
          have h0 : errA l x = 0 := by rw [errA, if_neg (by omega), if_neg (by simp [h2]), if_neg hn, if_neg h3]
          rw [addL, h0, if_pos rfl, addP, (lbE_parts x.no hc2).1, (lbE_parts x.no hc2).2]
          exact ⟨Sub.sl (by simp), Sub.refl _⟩
    · have h2 : validE x = false := by simpa using h2
      have he : err1 x = 330 := by rw [err1, if_neg (by simp [h2])]
      repeat' (first
        | (with_reducible refine aw_seq ?_)
        | ((with_reducible refine twoG_intro ?_ ?_) <;> intro hTw <;> first | (exact Bool.noConfusion hTw) | ((try simp only [hTw, Bool.not_true, Bool.not_false, Bool.true_and, Bool.false_and, Bool.and_true, Bool.and_false, Bool.true_or, Bool.false_or, Bool.or_true, Bool.or_false]); (first | (guard_hyp hTw : true = true; clear hTw) | (guard_hyp hTw : false = false; clear hTw) | (revert hTw; intro _))))
        | ((with_reducible refine two_intro ?_ ?_) <;> intro hTw <;> first | (exact Bool.noConfusion hTw) | ((first | (guard_hyp hTw : true = true; clear hTw) | (guard_hyp hTw : false = false; clear hTw) | (revert hTw; intro _))))
        | ((with_reducible refine And.intro ?_ ?_); (focus (first | exact eqEnt_ | omega | rfl | decide | grind)))
        | (with_reducible refine aw_block ?_)
        | (with_reducible refine aw_scope ?_)
        | ((first
            | ((with_reducible refine aw_regionA T_ok ?_ ?_); (focus kernel_rfl))
            | ((with_reducible refine aw_drawnA T_ok ?_ ?_ ?_ ?_); (focus kernel_rfl); (focus kernel_rfl); (focus (decide +kernel)))
            | ((with_reducible refine aw_drawnF T_ok ?_ ?_ ?_ ?_); (focus kernel_rfl); (focus kernel_rfl); (focus (decide +kernel)))
            | ((with_reducible refine callK_intro (gcheck_spec l hl hk) (by with_unfolding_all rfl) ?_ ?_); (focus kernel_rfl))
            | ((with_reducible refine callI_spec (gcheck_spec l hl hk) (by with_unfolding_all rfl) ?_ ?_ ?_); (focus kernel_rfl); (focus kernel_rfl))
            | ((with_reducible refine callK_intro (gcheck1_spec x hx) (by with_unfolding_all rfl) ?_ ?_); (focus kernel_rfl))
            | ((with_reducible refine callI_spec (gcheck1_spec x hx) (by with_unfolding_all rfl) ?_ ?_ ?_); (focus kernel_rfl); (focus kernel_rfl))
            | (with_reducible refine aw_label ?_)
            | ((with_reducible refine aw_rfM ?_ ?_); (focus kernel_rfl))
            | (with_reducible refine aw_skip ?_)
            | (with_reducible refine aw_exit ?_)
            | ((with_reducible refine aw_condM ?_ ?_); (focus kernel_rfl))
            | (with_reducible refine aw_ret ?_)
          ); simp only [↓rwp.eq_def, ↓sop.eq_def, ↓slotK.eq_def, inV, shT, unT, inQ, rfQ, rfEnd, resOf, pickT, setP, ydA, ydQ, rowW, vD, fillV,  ↓gop.eq_def, ↓hop.eq_def, ↓hopH.eq_def, ↓hwp.eq_def, ↓ldV.eq_def, ↓ldK.eq_def, ↓ixK.eq_def, ↓addOff.eq_def, ↓exK.eq_def, ↓notK.eq_def, ↓pickK.eq_def, ↓iop2.eq_def, ↓binK.eq_def, ↓eqop.eq_def, icells, ↓iop.eq_def, ↓cutK.eq_def, ↓lenK.eq_def, ↓lenM.eq_def, tyInt, ↓lookK.eq_def, ↓mpK.eq_def, keyV, allI, fitK, lkM, upM, dlM, kq, ↓cvK.eq_def, ↓mmK.eq_def, ↓biK.eq_def, ↓stK.eq_def, ↓apK.eq_def, ↓apD.eq_def, ↓apM.eq_def, isMo, ↓apS.eq_def, nxt, put, setT, setB, delB, lkT_n, lkT_c, lkB_n, lkB_c, ev, ofC, inT, ofA, ofRet, dV_n, dV_c, getD_enc, toDs_dV, List.head?_cons, List.length_map, Option.toArray_some, Option.toArray_none, Int.toNat_natCast, slOf, TyK.agg, vcells, splice, pickOps, headF, restF, allF, zOf, strip, stripP, gOf, allP, rowV, toDs, toD, toA, toAs, headOps, tailOps, isT, addN, Op.operands, Call.operands, List.map_cons, List.map_nil, List.drop_zero, List.drop_succ_cons, List.take_succ_cons, List.take_zero, List.length_cons, List.length_nil, List.getElem?_cons_zero, List.getElem?_cons_succ, List.getElem?_toArray, Option.bind_some, Option.map_some, Option.map_none, List.append_nil, List.nil_append, List.cons_append, if_true, if_false, reduceIte, Nat.reduceEqDiff, Nat.reduceAdd, Nat.reduceSub, Int.reduceToNat, Nat.reduceLeDiff, Nat.reduceLT, and_false, and_self, Nat.zero_add, Nat.add_zero, reduceCtorEq, Option.getD_some, Option.getD_none, Option.isSome_some, Option.isSome_none, forall_const, true_and, and_true, true_implies, Bool.true_and, Bool.false_and, Bool.and_true, Bool.and_false, Bool.true_or, Bool.false_or, Bool.or_true, Bool.or_false, beq_self_eq_true, zipM, zcells, Value.cells, Value.oneCell', List.toList_toArray, Array.toList_append, Bool.not_not, List.cons.injEq, Int.reduceEq, eq_self, false_and, Bool.not_true, Bool.not_false, ne_eq, not_false_eq_true, imp_self, implies_true, av_bt, av_bf, av_and, av_or, av_nf, av_tt, av_n1, av_n2, av_t1, av_tp, retQ, retL, resV, RetV, RetOk, SubL, snocE, entD_len, entD_take, entD_hd, entD_ln, entD_ic, entD_d1, entD_d2, entD_d3, entD_d4, entD_d5, entD_d6, entD_d7, ty_39, ty_3, ty_22, ty_4, ty_91, h1, he]; try simp (disch := omega) only [av_w, av_t1, av_tp, Int.toNat_natCast]))
      have : errA l x = 330 := by rw [errA, if_neg (by omega), if_pos h2]
      rw [addL, this, if_neg (by decide)]
      exact ⟨Sub.nil _ _, Sub.refl _⟩
  · have hd : ((checkL l) != 0) = true := by simpa using h1
    repeat' (first
      | (with_reducible refine aw_seq ?_)
      | ((with_reducible refine twoG_intro ?_ ?_) <;> intro hTw <;> first | (exact Bool.noConfusion hTw) | ((try simp only [hTw, Bool.not_true, Bool.not_false, Bool.true_and, Bool.false_and, Bool.and_true, Bool.and_false, Bool.true_or, Bool.false_or, Bool.or_true, Bool.or_false]); (first | (guard_hyp hTw : true = true; clear hTw) | (guard_hyp hTw : false = false; clear hTw) | (revert hTw; intro _))))
      | ((with_reducible refine two_intro ?_ ?_) <;> intro hTw <;> first | (exact Bool.noConfusion hTw) | ((first | (guard_hyp hTw : true = true; clear hTw) | (guard_hyp hTw : false = false; clear hTw) | (revert hTw; intro _))))
      | ((with_reducible refine And.intro ?_ ?_); (focus (first | exact eqEnt_ | omega | rfl | decide | grind)))
      | (with_reducible refine aw_block ?_)
      | (with_reducible refine aw_scope ?_)
      | ((first
          | ((with_reducible refine aw_regionA T_ok ?_ ?_); (focus kernel_rfl))
          | ((with_reducible refine aw_drawnA T_ok ?_ ?_ ?_ ?_); (focus kernel_rfl); (focus kernel_rfl); (focus (decide +kernel)))
          | ((with_reducible refine aw_drawnF T_ok ?_ ?_ ?_ ?_); (focus kernel_rfl); (focus kernel_rfl); (focus (decide +kernel)))
          | ((with_reducible refine callK_intro (gcheck_spec l hl hk) (by with_unfolding_all rfl) ?_ ?_); (focus kernel_rfl))
          | ((with_reducible refine callI_spec (gcheck_spec l hl hk) (by with_unfolding_all rfl) ?_ ?_ ?_); (focus kernel_rfl); (focus kernel_rfl))
          | (with_reducible refine aw_label ?_)
          | ((with_reducible refine aw_rfM ?_ ?_); (focus kernel_rfl))
          | (with_reducible refine aw_skip ?_)
          | (with_reducible refine aw_exit ?_)
          | ((with_reducible refine aw_condM ?_ ?_); (focus kernel_rfl))
          | (with_reducible refine aw_ret ?_)
        ); simp only [↓rwp.eq_def, ↓sop.eq_def, ↓slotK.eq_def, inV, shT, unT, inQ, rfQ, rfEnd, resOf, pickT, setP, ydA, ydQ, rowW, vD, fillV,  ↓gop.eq_def, ↓hop.eq_def, ↓hopH.eq_def, ↓hwp.eq_def, ↓ldV.eq_def, ↓ldK.eq_def, ↓ixK.eq_def, ↓addOff.eq_def, ↓exK.eq_def, ↓notK.eq_def, ↓pickK.eq_def, ↓iop2.eq_def, ↓binK.eq_def, ↓eqop.eq_def, icells, ↓iop.eq_def, ↓cutK.eq_def, ↓lenK.eq_def, ↓lenM.eq_def, tyInt, ↓lookK.eq_def, ↓mpK.eq_def, keyV, allI, fitK, lkM, upM, dlM, kq, ↓cvK.eq_def, ↓mmK.eq_def, ↓biK.eq_def, ↓stK.eq_def, ↓apK.eq_def, ↓apD.eq_def, ↓apM.eq_def, isMo, ↓apS.eq_def, nxt, put, setT, setB, delB, lkT_n, lkT_c, lkB_n, lkB_c, ev, ofC, inT, ofA, ofRet, dV_n, dV_c, getD_enc, toDs_dV, List.head?_cons, List.length_map, Option.toArray_some, Option.toArray_none, Int.toNat_natCast, slOf, TyK.agg, vcells, splice, pickOps, headF, restF, allF, zOf, strip, stripP, gOf, allP, rowV, toDs, toD, toA, toAs, headOps, tailOps, isT, addN, Op.operands, Call.operands, List.map_cons, List.map_nil, List.drop_zero, List.drop_succ_cons, List.take_succ_cons, List.take_zero, List.length_cons, List.length_nil, List.getElem?_cons_zero, List.getElem?_cons_succ, List.getElem?_toArray, Option.bind_some, Option.map_some, Option.map_none, List.append_nil, List.nil_append, List.cons_append, if_true, if_false, reduceIte, Nat.reduceEqDiff, Nat.reduceAdd, Nat.reduceSub, Int.reduceToNat, Nat.reduceLeDiff, Nat.reduceLT, and_false, and_self, Nat.zero_add, Nat.add_zero, reduceCtorEq, Option.getD_some, Option.getD_none, Option.isSome_some, Option.isSome_none, forall_const, true_and, and_true, true_implies, Bool.true_and, Bool.false_and, Bool.and_true, Bool.and_false, Bool.true_or, Bool.false_or, Bool.or_true, Bool.or_false, beq_self_eq_true, zipM, zcells, Value.cells, Value.oneCell', List.toList_toArray, Array.toList_append, Bool.not_not, List.cons.injEq, Int.reduceEq, eq_self, false_and, Bool.not_true, Bool.not_false, ne_eq, not_false_eq_true, imp_self, implies_true, av_bt, av_bf, av_and, av_or, av_nf, av_tt, av_n1, av_n2, av_t1, av_tp, retQ, retL, resV, RetV, RetOk, SubL, snocE, entD_len, entD_take, entD_hd, entD_ln, entD_ic, entD_d1, entD_d2, entD_d3, entD_d4, entD_d5, entD_d6, entD_d7, ty_39, ty_3, ty_22, ty_4, ty_91, hd]; try simp (disch := omega) only [av_w, av_t1, av_tp, Int.toNat_natCast]))
    have : errA l x = checkL l := by rw [errA, if_pos h1]
    rw [addL, this, if_neg h1]
    exact ⟨Sub.nil _ _, Sub.refl _⟩
theorem esame_spec (a b : List Ent) (hl : a.length ≤ 140737488351232) : Spec Try.prog 30 [aEs a, aEs b] (.r1 (aB (decide (a = b)))) := by
  refine spec_of T_ok Try.func30 (by dsimp only [Try.f30]) rfl rfl (by simp) fun w F => ?_
  by_cases he : a.length = b.length
  · have hd0 : (((a.length : Int)) != ((b.length : Int))) = false := by simp; omega
    repeat' (first
      | (with_reducible refine aw_seq ?_)
      | ((with_reducible refine twoG_intro ?_ ?_) <;> intro hTw <;> first | (exact Bool.noConfusion hTw) | ((try simp only [hTw, Bool.not_true, Bool.not_false, Bool.true_and, Bool.false_and, Bool.and_true, Bool.and_false, Bool.true_or, Bool.false_or, Bool.or_true, Bool.or_false]); (first | (guard_hyp hTw : true = true; clear hTw) | (guard_hyp hTw : false = false; clear hTw) | (revert hTw; intro _))))
      | ((with_reducible refine two_intro ?_ ?_) <;> intro hTw <;> first | (exact Bool.noConfusion hTw) | ((first | (guard_hyp hTw : true = true; clear hTw) | (guard_hyp hTw : false = false; clear hTw) | (revert hTw; intro _))))
      | ((with_reducible refine And.intro ?_ ?_); (focus (first | exact eqEnt_ | omega | rfl | decide | grind)))
      | (with_reducible refine aw_block ?_)
      | (with_reducible refine aw_scope ?_)
      | ((first
          | ((with_reducible refine aw_regionA T_ok ?_ ?_); (focus kernel_rfl))
          | ((with_reducible refine aw_drawnA T_ok ?_ ?_ ?_ ?_); (focus kernel_rfl); (focus kernel_rfl); (focus (decide +kernel)))
          | ((with_reducible refine aw_drawnF T_ok ?_ ?_ ?_ ?_); (focus kernel_rfl); (focus kernel_rfl); (focus (decide +kernel)))
          | (with_reducible refine aw_label ?_)
          | ((with_reducible refine aw_rfM ?_ ?_); (focus kernel_rfl))
          | (with_reducible refine aw_skip ?_)
          | (with_reducible refine aw_exit ?_)
          | ((with_reducible refine aw_condM ?_ ?_); (focus kernel_rfl))
          | (with_reducible refine aw_ret ?_)
        ); simp only [↓rwp.eq_def, ↓sop.eq_def, ↓slotK.eq_def, inV, shT, unT, inQ, rfQ, rfEnd, resOf, pickT, setP, ydA, ydQ, rowW, vD, fillV,  ↓gop.eq_def, ↓hop.eq_def, ↓hopH.eq_def, ↓hwp.eq_def, ↓ldV.eq_def, ↓ldK.eq_def, ↓ixK.eq_def, ↓addOff.eq_def, ↓exK.eq_def, ↓notK.eq_def, ↓pickK.eq_def, ↓iop2.eq_def, ↓binK.eq_def, ↓eqop.eq_def, icells, ↓iop.eq_def, ↓cutK.eq_def, ↓lenK.eq_def, ↓lenM.eq_def, tyInt, ↓lookK.eq_def, ↓mpK.eq_def, keyV, allI, fitK, lkM, upM, dlM, kq, ↓cvK.eq_def, ↓mmK.eq_def, ↓biK.eq_def, ↓stK.eq_def, ↓apK.eq_def, ↓apD.eq_def, ↓apM.eq_def, isMo, ↓apS.eq_def, nxt, put, setT, setB, delB, lkT_n, lkT_c, lkB_n, lkB_c, ev, ofC, inT, ofA, ofRet, dV_n, dV_c, getD_enc, toDs_dV, List.head?_cons, List.length_map, Option.toArray_some, Option.toArray_none, Int.toNat_natCast, slOf, TyK.agg, vcells, splice, pickOps, headF, restF, allF, zOf, strip, stripP, gOf, allP, rowV, toDs, toD, toA, toAs, headOps, tailOps, isT, addN, Op.operands, Call.operands, List.map_cons, List.map_nil, List.drop_zero, List.drop_succ_cons, List.take_succ_cons, List.take_zero, List.length_cons, List.length_nil, List.getElem?_cons_zero, List.getElem?_cons_succ, List.getElem?_toArray, Option.bind_some, Option.map_some, Option.map_none, List.append_nil, List.nil_append, List.cons_append, if_true, if_false, reduceIte, Nat.reduceEqDiff, Nat.reduceAdd, Nat.reduceSub, Int.reduceToNat, Nat.reduceLeDiff, Nat.reduceLT, and_false, and_self, Nat.zero_add, Nat.add_zero, reduceCtorEq, Option.getD_some, Option.getD_none, Option.isSome_some, Option.isSome_none, forall_const, true_and, and_true, true_implies, Bool.true_and, Bool.false_and, Bool.and_true, Bool.and_false, Bool.true_or, Bool.false_or, Bool.or_true, Bool.or_false, beq_self_eq_true, zipM, zcells, Value.cells, Value.oneCell', List.toList_toArray, Array.toList_append, Bool.not_not, List.cons.injEq, Int.reduceEq, eq_self, false_and, Bool.not_true, Bool.not_false, ne_eq, not_false_eq_true, imp_self, implies_true, av_bt, av_bf, av_and, av_or, av_nf, av_tt, av_n1, av_n2, av_t1, av_tp, retQ, retL, resV, RetV, RetOk, SubL, snocE, entD_len, entD_take, entD_hd, entD_ln, entD_ic, entD_d1, entD_d2, entD_d3, entD_d4, entD_d5, entD_d6, entD_d7, ty_39, ty_3, ty_22, ty_4, ty_91, hd0]; try simp (disch := omega) only [av_w, av_t1, av_tp, Int.toNat_natCast]))
    refine aw_loopI (fun k : Nat => ⟨[(0, vEs a), (1, vEs b), (5, vI k)], [], 0⟩) (fun k => k ≤ a.length ∧ ∀ i, i < k → a.getD i default = b.getD i default) (fun k => a.length - k) 0 ⟨Nat.zero_le _, fun i hi => absurd hi (Nat.not_lt_zero i)⟩ (wk_of [] rfl rfl ?_ ?_) ?_
    · simp only [wkT, wkB, wkB1, subV, subVs, subD, subB, lkN_n, lkN_c, lkT_n, lkT_c, lkB_n, lkB_c, if_true, if_false, reduceIte, Nat.reduceEqDiff, true_and, and_true, and_self, inT, ofA]
      (repeat' (first | exact trivial | rfl | exact rfl | refine And.intro ?_ ?_))
    · simp only [wkT, wkB, wkB1, subV, subVs, subD, subB, lkN_n, lkN_c, lkT_n, lkT_c, lkB_n, lkB_c, if_true, if_false, reduceIte, Nat.reduceEqDiff, true_and, and_true, and_self, inT, ofA]
    rintro k ⟨hk, h0⟩
    rcases Nat.lt_or_ge k a.length with hlt | hge
    · have hd := ltd hlt
      by_cases hx : a.getD k default = b.getD k default
      · have hx' : decide (a.getD k default = b.getD k default) = true := decide_eq_true hx
        repeat' (first
          | (with_reducible refine aw_seq ?_)
          | ((with_reducible refine twoG_intro ?_ ?_) <;> intro hTw <;> first | (exact Bool.noConfusion hTw) | ((try simp only [hTw, Bool.not_true, Bool.not_false, Bool.true_and, Bool.false_and, Bool.and_true, Bool.and_false, Bool.true_or, Bool.false_or, Bool.or_true, Bool.or_false]); (first | (guard_hyp hTw : true = true; clear hTw) | (guard_hyp hTw : false = false; clear hTw) | (revert hTw; intro _))))
          | ((with_reducible refine two_intro ?_ ?_) <;> intro hTw <;> first | (exact Bool.noConfusion hTw) | ((first | (guard_hyp hTw : true = true; clear hTw) | (guard_hyp hTw : false = false; clear hTw) | (revert hTw; intro _))))
          | ((with_reducible refine And.intro ?_ ?_); (focus (first | exact eqEnt_ | omega | rfl | decide | grind)))
          | (with_reducible refine aw_block ?_)
          | (with_reducible refine aw_scope ?_)
          | ((first
              | ((with_reducible refine aw_regionA T_ok ?_ ?_); (focus kernel_rfl))
              | ((with_reducible refine aw_drawnA T_ok ?_ ?_ ?_ ?_); (focus kernel_rfl); (focus kernel_rfl); (focus (decide +kernel)))
              | ((with_reducible refine aw_drawnF T_ok ?_ ?_ ?_ ?_); (focus kernel_rfl); (focus kernel_rfl); (focus (decide +kernel)))
              | (with_reducible refine aw_label ?_)
              | ((with_reducible refine aw_rfM ?_ ?_); (focus kernel_rfl))
              | (with_reducible refine aw_skip ?_)
              | (with_reducible refine aw_exit ?_)
              | ((with_reducible refine aw_condM ?_ ?_); (focus kernel_rfl))
              | (with_reducible refine aw_ret ?_)
            ); simp only [↓rwp.eq_def, ↓sop.eq_def, ↓slotK.eq_def, inV, shT, unT, inQ, rfQ, rfEnd, resOf, pickT, setP, ydA, ydQ, rowW, vD, fillV,  ↓gop.eq_def, ↓hop.eq_def, ↓hopH.eq_def, ↓hwp.eq_def, ↓ldV.eq_def, ↓ldK.eq_def, ↓ixK.eq_def, ↓addOff.eq_def, ↓exK.eq_def, ↓notK.eq_def, ↓pickK.eq_def, ↓iop2.eq_def, ↓binK.eq_def, ↓eqop.eq_def, icells, ↓iop.eq_def, ↓cutK.eq_def, ↓lenK.eq_def, ↓lenM.eq_def, tyInt, ↓lookK.eq_def, ↓mpK.eq_def, keyV, allI, fitK, lkM, upM, dlM, kq, ↓cvK.eq_def, ↓mmK.eq_def, ↓biK.eq_def, ↓stK.eq_def, ↓apK.eq_def, ↓apD.eq_def, ↓apM.eq_def, isMo, ↓apS.eq_def, nxt, put, setT, setB, delB, lkT_n, lkT_c, lkB_n, lkB_c, ev, ofC, inT, ofA, ofRet, dV_n, dV_c, getD_enc, toDs_dV, List.head?_cons, List.length_map, Option.toArray_some, Option.toArray_none, Int.toNat_natCast, slOf, TyK.agg, vcells, splice, pickOps, headF, restF, allF, zOf, strip, stripP, gOf, allP, rowV, toDs, toD, toA, toAs, headOps, tailOps, isT, addN, Op.operands, Call.operands, List.map_cons, List.map_nil, List.drop_zero, List.drop_succ_cons, List.take_succ_cons, List.take_zero, List.length_cons, List.length_nil, List.getElem?_cons_zero, List.getElem?_cons_succ, List.getElem?_toArray, Option.bind_some, Option.map_some, Option.map_none, List.append_nil, List.nil_append, List.cons_append, if_true, if_false, reduceIte, Nat.reduceEqDiff, Nat.reduceAdd, Nat.reduceSub, Int.reduceToNat, Nat.reduceLeDiff, Nat.reduceLT, and_false, and_self, Nat.zero_add, Nat.add_zero, reduceCtorEq, Option.getD_some, Option.getD_none, Option.isSome_some, Option.isSome_none, forall_const, true_and, and_true, true_implies, Bool.true_and, Bool.false_and, Bool.and_true, Bool.and_false, Bool.true_or, Bool.false_or, Bool.or_true, Bool.or_false, beq_self_eq_true, zipM, zcells, Value.cells, Value.oneCell', List.toList_toArray, Array.toList_append, Bool.not_not, List.cons.injEq, Int.reduceEq, eq_self, false_and, Bool.not_true, Bool.not_false, ne_eq, not_false_eq_true, imp_self, implies_true, av_bt, av_bf, av_and, av_or, av_nf, av_tt, av_n1, av_n2, av_t1, av_tp, retQ, retL, resV, RetV, RetOk, SubL, snocE, entD_len, entD_take, entD_hd, entD_ln, entD_ic, entD_d1, entD_d2, entD_d3, entD_d4, entD_d5, entD_d6, entD_d7, ty_39, ty_3, ty_22, ty_4, ty_91, hd, entEq, hx']; try simp (disch := omega) only [av_w, av_t1, av_tp, Int.toNat_natCast]))
        refine ⟨k + 1, ⟨by omega, fun i hi => ?_⟩, by dsimp only; omega, wk_of [] rfl rfl ?_ ?_⟩
        · by_cases hik : i = k
          · rw [hik]; exact hx
          · exact h0 i (by omega)
        · simp only [wkT, wkB, wkB1, subV, subVs, subD, subB, lkN_n, lkN_c, lkT_n, lkT_c, lkB_n, lkB_c, if_true, if_false, reduceIte, Nat.reduceEqDiff, true_and, and_true, and_self, inT, ofA]
          (repeat' (first | exact trivial | rfl | exact rfl | refine And.intro ?_ ?_))
        · simp only [wkT, wkB, wkB1, subV, subVs, subD, subB, lkN_n, lkN_c, lkT_n, lkT_c, lkB_n, lkB_c, if_true, if_false, reduceIte, Nat.reduceEqDiff, true_and, and_true, and_self, inT, ofA]
      · have hx' : decide (a.getD k default = b.getD k default) = false := decide_eq_false hx
        repeat' (first
          | (with_reducible refine aw_seq ?_)
          | ((with_reducible refine twoG_intro ?_ ?_) <;> intro hTw <;> first | (exact Bool.noConfusion hTw) | ((try simp only [hTw, Bool.not_true, Bool.not_false, Bool.true_and, Bool.false_and, Bool.and_true, Bool.and_false, Bool.true_or, Bool.false_or, Bool.or_true, Bool.or_false]); (first | (guard_hyp hTw : true = true; clear hTw) | (guard_hyp hTw : false = false; clear hTw) | (revert hTw; intro _))))
          | ((with_reducible refine two_intro ?_ ?_) <;> intro hTw <;> first | (exact Bool.noConfusion hTw) | ((first | (guard_hyp hTw : true = true; clear hTw) | (guard_hyp hTw : false = false; clear hTw) | (revert hTw; intro _))))
          | ((with_reducible refine And.intro ?_ ?_); (focus (first | exact eqEnt_ | omega | rfl | decide | grind)))
          | (with_reducible refine aw_block ?_)
          | (with_reducible refine aw_scope ?_)
          | ((first
              | ((with_reducible refine aw_regionA T_ok ?_ ?_); (focus kernel_rfl))
              | ((with_reducible refine aw_drawnA T_ok ?_ ?_ ?_ ?_); (focus kernel_rfl); (focus kernel_rfl); (focus (decide +kernel)))
              | ((with_reducible refine aw_drawnF T_ok ?_ ?_ ?_ ?_); (focus kernel_rfl); (focus kernel_rfl); (focus (decide +kernel)))
              | (with_reducible refine aw_label ?_)
              | ((with_reducible refine aw_rfM ?_ ?_); (focus kernel_rfl))
              | (with_reducible refine aw_skip ?_)
              | (with_reducible refine aw_exit ?_)
              | ((with_reducible refine aw_condM ?_ ?_); (focus kernel_rfl))
              | (with_reducible refine aw_ret ?_)
            ); simp only [↓rwp.eq_def, ↓sop.eq_def, ↓slotK.eq_def, inV, shT, unT, inQ, rfQ, rfEnd, resOf, pickT, setP, ydA, ydQ, rowW, vD, fillV,  ↓gop.eq_def, ↓hop.eq_def, ↓hopH.eq_def, ↓hwp.eq_def, ↓ldV.eq_def, ↓ldK.eq_def, ↓ixK.eq_def, ↓addOff.eq_def, ↓exK.eq_def, ↓notK.eq_def, ↓pickK.eq_def, ↓iop2.eq_def, ↓binK.eq_def, ↓eqop.eq_def, icells, ↓iop.eq_def, ↓cutK.eq_def, ↓lenK.eq_def, ↓lenM.eq_def, tyInt, ↓lookK.eq_def, ↓mpK.eq_def, keyV, allI, fitK, lkM, upM, dlM, kq, ↓cvK.eq_def, ↓mmK.eq_def, ↓biK.eq_def, ↓stK.eq_def, ↓apK.eq_def, ↓apD.eq_def, ↓apM.eq_def, isMo, ↓apS.eq_def, nxt, put, setT, setB, delB, lkT_n, lkT_c, lkB_n, lkB_c, ev, ofC, inT, ofA, ofRet, dV_n, dV_c, getD_enc, toDs_dV, List.head?_cons, List.length_map, Option.toArray_some, Option.toArray_none, Int.toNat_natCast, slOf, TyK.agg, vcells, splice, pickOps, headF, restF, allF, zOf, strip, stripP, gOf, allP, rowV, toDs, toD, toA, toAs, headOps, tailOps, isT, addN, Op.operands, Call.operands, List.map_cons, List.map_nil, List.drop_zero, List.drop_succ_cons, List.take_succ_cons, List.take_zero, List.length_cons, List.length_nil, List.getElem?_cons_zero, List.getElem?_cons_succ, List.getElem?_toArray, Option.bind_some, Option.map_some, Option.map_none, List.append_nil, List.nil_append, List.cons_append, if_true, if_false, reduceIte, Nat.reduceEqDiff, Nat.reduceAdd, Nat.reduceSub, Int.reduceToNat, Nat.reduceLeDiff, Nat.reduceLT, and_false, and_self, Nat.zero_add, Nat.add_zero, reduceCtorEq, Option.getD_some, Option.getD_none, Option.isSome_some, Option.isSome_none, forall_const, true_and, and_true, true_implies, Bool.true_and, Bool.false_and, Bool.and_true, Bool.and_false, Bool.true_or, Bool.false_or, Bool.or_true, Bool.or_false, beq_self_eq_true, zipM, zcells, Value.cells, Value.oneCell', List.toList_toArray, Array.toList_append, Bool.not_not, List.cons.injEq, Int.reduceEq, eq_self, false_and, Bool.not_true, Bool.not_false, ne_eq, not_false_eq_true, imp_self, implies_true, av_bt, av_bf, av_and, av_or, av_nf, av_tt, av_n1, av_n2, av_t1, av_tp, retQ, retL, resV, RetV, RetOk, SubL, snocE, entD_len, entD_take, entD_hd, entD_ln, entD_ic, entD_d1, entD_d2, entD_d3, entD_d4, entD_d5, entD_d6, entD_d7, ty_39, ty_3, ty_22, ty_4, ty_91, hd, entEq, hx']; try simp (disch := omega) only [av_w, av_t1, av_tp, Int.toNat_natCast]))
        have hn : a ≠ b := fun e => hx (by rw [e])
        exact Sub.of_eq (congrArg aB (decide_eq_false hn).symm)
    · obtain rfl : k = a.length := by omega
      have hd := ged (Nat.le_refl a.length)
      repeat' (first
        | (with_reducible refine aw_seq ?_)
        | ((with_reducible refine twoG_intro ?_ ?_) <;> intro hTw <;> first | (exact Bool.noConfusion hTw) | ((try simp only [hTw, Bool.not_true, Bool.not_false, Bool.true_and, Bool.false_and, Bool.and_true, Bool.and_false, Bool.true_or, Bool.false_or, Bool.or_true, Bool.or_false]); (first | (guard_hyp hTw : true = true; clear hTw) | (guard_hyp hTw : false = false; clear hTw) | (revert hTw; intro _))))
        | ((with_reducible refine two_intro ?_ ?_) <;> intro hTw <;> first | (exact Bool.noConfusion hTw) | ((first | (guard_hyp hTw : true = true; clear hTw) | (guard_hyp hTw : false = false; clear hTw) | (revert hTw; intro _))))
        | ((with_reducible refine And.intro ?_ ?_); (focus (first | exact eqEnt_ | omega | rfl | decide | grind)))
        | (with_reducible refine aw_block ?_)
        | (with_reducible refine aw_scope ?_)
        | ((first
            | ((with_reducible refine aw_regionA T_ok ?_ ?_); (focus kernel_rfl))
            | ((with_reducible refine aw_drawnA T_ok ?_ ?_ ?_ ?_); (focus kernel_rfl); (focus kernel_rfl); (focus (decide +kernel)))
            | ((with_reducible refine aw_drawnF T_ok ?_ ?_ ?_ ?_); (focus kernel_rfl); (focus kernel_rfl); (focus (decide +kernel)))
            | (with_reducible refine aw_label ?_)
            | ((with_reducible refine aw_rfM ?_ ?_); (focus kernel_rfl))
            | (with_reducible refine aw_skip ?_)
            | (with_reducible refine aw_exit ?_)
            | ((with_reducible refine aw_condM ?_ ?_); (focus kernel_rfl))
            | (with_reducible refine aw_ret ?_)
          ); simp only [↓rwp.eq_def, ↓sop.eq_def, ↓slotK.eq_def, inV, shT, unT, inQ, rfQ, rfEnd, resOf, pickT, setP, ydA, ydQ, rowW, vD, fillV,  ↓gop.eq_def, ↓hop.eq_def, ↓hopH.eq_def, ↓hwp.eq_def, ↓ldV.eq_def, ↓ldK.eq_def, ↓ixK.eq_def, ↓addOff.eq_def, ↓exK.eq_def, ↓notK.eq_def, ↓pickK.eq_def, ↓iop2.eq_def, ↓binK.eq_def, ↓eqop.eq_def, icells, ↓iop.eq_def, ↓cutK.eq_def, ↓lenK.eq_def, ↓lenM.eq_def, tyInt, ↓lookK.eq_def, ↓mpK.eq_def, keyV, allI, fitK, lkM, upM, dlM, kq, ↓cvK.eq_def, ↓mmK.eq_def, ↓biK.eq_def, ↓stK.eq_def, ↓apK.eq_def, ↓apD.eq_def, ↓apM.eq_def, isMo, ↓apS.eq_def, nxt, put, setT, setB, delB, lkT_n, lkT_c, lkB_n, lkB_c, ev, ofC, inT, ofA, ofRet, dV_n, dV_c, getD_enc, toDs_dV, List.head?_cons, List.length_map, Option.toArray_some, Option.toArray_none, Int.toNat_natCast, slOf, TyK.agg, vcells, splice, pickOps, headF, restF, allF, zOf, strip, stripP, gOf, allP, rowV, toDs, toD, toA, toAs, headOps, tailOps, isT, addN, Op.operands, Call.operands, List.map_cons, List.map_nil, List.drop_zero, List.drop_succ_cons, List.take_succ_cons, List.take_zero, List.length_cons, List.length_nil, List.getElem?_cons_zero, List.getElem?_cons_succ, List.getElem?_toArray, Option.bind_some, Option.map_some, Option.map_none, List.append_nil, List.nil_append, List.cons_append, if_true, if_false, reduceIte, Nat.reduceEqDiff, Nat.reduceAdd, Nat.reduceSub, Int.reduceToNat, Nat.reduceLeDiff, Nat.reduceLT, and_false, and_self, Nat.zero_add, Nat.add_zero, reduceCtorEq, Option.getD_some, Option.getD_none, Option.isSome_some, Option.isSome_none, forall_const, true_and, and_true, true_implies, Bool.true_and, Bool.false_and, Bool.and_true, Bool.and_false, Bool.true_or, Bool.false_or, Bool.or_true, Bool.or_false, beq_self_eq_true, zipM, zcells, Value.cells, Value.oneCell', List.toList_toArray, Array.toList_append, Bool.not_not, List.cons.injEq, Int.reduceEq, eq_self, false_and, Bool.not_true, Bool.not_false, ne_eq, not_false_eq_true, imp_self, implies_true, av_bt, av_bf, av_and, av_or, av_nf, av_tt, av_n1, av_n2, av_t1, av_tp, retQ, retL, resV, RetV, RetOk, SubL, snocE, entD_len, entD_take, entD_hd, entD_ln, entD_ic, entD_d1, entD_d2, entD_d3, entD_d4, entD_d5, entD_d6, entD_d7, ty_39, ty_3, ty_22, ty_4, ty_91, hd]; try simp (disch := omega) only [av_w, av_t1, av_tp, Int.toNat_natCast]))
      have hab : a = b := List.ext_getElem he (fun i h1 h2 => by have := h0 i h1; rwa [getD_at h1, getD_at h2] at this)
      exact Sub.of_eq (congrArg aB (decide_eq_true hab).symm)
  · have hd0 : (((a.length : Int)) != ((b.length : Int))) = true := by simp; omega
    repeat' (first
      | (with_reducible refine aw_seq ?_)
      | ((with_reducible refine twoG_intro ?_ ?_) <;> intro hTw <;> first | (exact Bool.noConfusion hTw) | ((try simp only [hTw, Bool.not_true, Bool.not_false, Bool.true_and, Bool.false_and, Bool.and_true, Bool.and_false, Bool.true_or, Bool.false_or, Bool.or_true, Bool.or_false]); (first | (guard_hyp hTw : true = true; clear hTw) | (guard_hyp hTw : false = false; clear hTw) | (revert hTw; intro _))))
      | ((with_reducible refine two_intro ?_ ?_) <;> intro hTw <;> first | (exact Bool.noConfusion hTw) | ((first | (guard_hyp hTw : true = true; clear hTw) | (guard_hyp hTw : false = false; clear hTw) | (revert hTw; intro _))))
      | ((with_reducible refine And.intro ?_ ?_); (focus (first | exact eqEnt_ | omega | rfl | decide | grind)))
      | (with_reducible refine aw_block ?_)
      | (with_reducible refine aw_scope ?_)
      | ((first
          | ((with_reducible refine aw_regionA T_ok ?_ ?_); (focus kernel_rfl))
          | ((with_reducible refine aw_drawnA T_ok ?_ ?_ ?_ ?_); (focus kernel_rfl); (focus kernel_rfl); (focus (decide +kernel)))
          | ((with_reducible refine aw_drawnF T_ok ?_ ?_ ?_ ?_); (focus kernel_rfl); (focus kernel_rfl); (focus (decide +kernel)))
          | (with_reducible refine aw_label ?_)
          | ((with_reducible refine aw_rfM ?_ ?_); (focus kernel_rfl))
          | (with_reducible refine aw_skip ?_)
          | (with_reducible refine aw_exit ?_)
          | ((with_reducible refine aw_condM ?_ ?_); (focus kernel_rfl))
          | (with_reducible refine aw_ret ?_)
        ); simp only [↓rwp.eq_def, ↓sop.eq_def, ↓slotK.eq_def, inV, shT, unT, inQ, rfQ, rfEnd, resOf, pickT, setP, ydA, ydQ, rowW, vD, fillV,  ↓gop.eq_def, ↓hop.eq_def, ↓hopH.eq_def, ↓hwp.eq_def, ↓ldV.eq_def, ↓ldK.eq_def, ↓ixK.eq_def, ↓addOff.eq_def, ↓exK.eq_def, ↓notK.eq_def, ↓pickK.eq_def, ↓iop2.eq_def, ↓binK.eq_def, ↓eqop.eq_def, icells, ↓iop.eq_def, ↓cutK.eq_def, ↓lenK.eq_def, ↓lenM.eq_def, tyInt, ↓lookK.eq_def, ↓mpK.eq_def, keyV, allI, fitK, lkM, upM, dlM, kq, ↓cvK.eq_def, ↓mmK.eq_def, ↓biK.eq_def, ↓stK.eq_def, ↓apK.eq_def, ↓apD.eq_def, ↓apM.eq_def, isMo, ↓apS.eq_def, nxt, put, setT, setB, delB, lkT_n, lkT_c, lkB_n, lkB_c, ev, ofC, inT, ofA, ofRet, dV_n, dV_c, getD_enc, toDs_dV, List.head?_cons, List.length_map, Option.toArray_some, Option.toArray_none, Int.toNat_natCast, slOf, TyK.agg, vcells, splice, pickOps, headF, restF, allF, zOf, strip, stripP, gOf, allP, rowV, toDs, toD, toA, toAs, headOps, tailOps, isT, addN, Op.operands, Call.operands, List.map_cons, List.map_nil, List.drop_zero, List.drop_succ_cons, List.take_succ_cons, List.take_zero, List.length_cons, List.length_nil, List.getElem?_cons_zero, List.getElem?_cons_succ, List.getElem?_toArray, Option.bind_some, Option.map_some, Option.map_none, List.append_nil, List.nil_append, List.cons_append, if_true, if_false, reduceIte, Nat.reduceEqDiff, Nat.reduceAdd, Nat.reduceSub, Int.reduceToNat, Nat.reduceLeDiff, Nat.reduceLT, and_false, and_self, Nat.zero_add, Nat.add_zero, reduceCtorEq, Option.getD_some, Option.getD_none, Option.isSome_some, Option.isSome_none, forall_const, true_and, and_true, true_implies, Bool.true_and, Bool.false_and, Bool.and_true, Bool.and_false, Bool.true_or, Bool.false_or, Bool.or_true, Bool.or_false, beq_self_eq_true, zipM, zcells, Value.cells, Value.oneCell', List.toList_toArray, Array.toList_append, Bool.not_not, List.cons.injEq, Int.reduceEq, eq_self, false_and, Bool.not_true, Bool.not_false, ne_eq, not_false_eq_true, imp_self, implies_true, av_bt, av_bf, av_and, av_or, av_nf, av_tt, av_n1, av_n2, av_t1, av_tp, retQ, retL, resV, RetV, RetOk, SubL, snocE, entD_len, entD_take, entD_hd, entD_ln, entD_ic, entD_d1, entD_d2, entD_d3, entD_d4, entD_d5, entD_d6, entD_d7, ty_39, ty_3, ty_22, ty_4, ty_91, hd0]; try simp (disch := omega) only [av_w, av_t1, av_tp, Int.toNat_natCast]))
    exact Sub.of_eq (congrArg aB (decide_eq_false (fun e => he (by rw [e]))).symm)
end Go.Proofs.Ytfmefdeldgmhpaa


namespace Go.Proofs.Ytfmefdeldgmhpaa
set_option linter.unusedSimpArgs false
set_option linter.unusedVariables false
theorem goodL_of : ∀ (l : List Ent) (last : Int), (∀ x ∈ l, last < x.no) → l.Pairwise (fun x y => x.no < y.no) → (∀ x ∈ l, validE x = true) → goodL last l = true
  | [], _, _, _, _ => rfl
  | x :: r, last, h1, h2, h3 => by
    rw [List.pairwise_cons] at h2
    simp only [goodL, Bool.and_eq_true, decide_eq_true_eq]
    exact ⟨⟨h3 x (by simp), h1 x (by simp)⟩, goodL_of r x.no h2.1 h2.2 (fun y hy => h3 y (List.mem_cons_of_mem _ hy))⟩
theorem checkL_of {l : List Ent} (h1 : l.length ≤ 1024) (h2 : l.Pairwise (fun x y => x.no < y.no)) (h3 : ∀ x ∈ l, validE x = true) : checkL l = 0 := by
  rw [checkL, if_neg (by omega), if_pos]
  exact goodL_of l (-1) (fun x hx => by have := validE_no x (h3 x hx); omega) h2 h3
end Go.Proofs.Ytfmefdeldgmhpaa

