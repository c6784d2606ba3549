import Derived.Test.YtfmefdeldgmhpaaR5
namespace Go.Proofs.Ytfmefdeldgmhpaa
set_option linter.unusedSimpArgs false
set_option linter.unusedVariables false
open Go.RowKit
set_option maxRecDepth 100000
set_option maxHeartbeats 4000000
theorem law13_spec (l : List Ent) (day time person : Int) (ho : l.length ≤ 140737488351232 ∧ ∀ x ∈ l, OkE x) : Spec Try.prog 13 [aEs l, aI day, aI time, aI person] (.r1 (aB true)) := by
  obtain ⟨hl, hk'⟩ := ho
  have hk := okE_kind hk'
  refine spec_of T_ok Try.func13 (by dsimp only [Try.f13]) rfl rfl (by simp) fun w F => ?_
  cases hf : fewL l with
  | false =>
    repeat' (first
      | (with_reducible refine aw_seq ?_)
      | ((with_reducible refine twoG_intro ?_ ?_) <;> intro hTw <;> first | (exact Bool.noConfusion hTw) | ((try simp only [hTw, Bool.not_true, Bool.not_false, Bool.true_and, Bool.false_and, Bool.and_true, Bool.and_false, Bool.true_or, Bool.false_or, Bool.or_true, Bool.or_false]); (first | (guard_hyp hTw : true = true; clear hTw) | (guard_hyp hTw : false = false; clear hTw) | (revert hTw; intro _))))
      | ((with_reducible refine two_intro ?_ ?_) <;> intro hTw <;> first | (exact Bool.noConfusion hTw) | ((first | (guard_hyp hTw : true = true; clear hTw) | (guard_hyp hTw : false = false; clear hTw) | (revert hTw; intro _))))
      | ((with_reducible refine And.intro ?_ ?_); (focus (first | omega | rfl | decide | grind)))
      | (with_reducible refine aw_block ?_)
      | (with_reducible refine aw_scope ?_)
      | ((first
          | ((with_reducible refine aw_regionA T_ok ?_ ?_); (focus kernel_rfl))
          | ((with_reducible refine aw_drawnA T_ok ?_ ?_ ?_ ?_); (focus kernel_rfl); (focus kernel_rfl); (focus kernel_rfl))
          | ((with_reducible refine callK_intro (rsane_spec) (by with_unfolding_all rfl) ?_ ?_); (focus kernel_rfl))
          | ((with_reducible refine callI_spec (rsane_spec) (by with_unfolding_all rfl) ?_ ?_ ?_); (focus kernel_rfl); (focus kernel_rfl))
          | ((with_reducible refine callK_intro (few_spec l hl) (by with_unfolding_all rfl) ?_ ?_); (focus kernel_rfl))
          | ((with_reducible refine callI_spec (few_spec l hl) (by with_unfolding_all rfl) ?_ ?_ ?_); (focus kernel_rfl); (focus kernel_rfl))
          | (with_reducible refine aw_label ?_)
          | ((with_reducible refine aw_rfM ?_ ?_); (focus kernel_rfl))
          | (with_reducible refine aw_skip ?_)
          | (with_reducible refine aw_exit ?_)
          | ((with_reducible refine aw_condM ?_ ?_); (focus kernel_rfl))
          | (with_reducible refine aw_ret ?_)
        ); simp only [↓rwp.eq_def, ↓sop.eq_def, ↓slotK.eq_def, inV, shT, unT, inQ, rfQ, rfEnd, resOf, pickT, setP, ydA, ydQ, rowW, vD, fillV,  ↓gop.eq_def, ↓hop.eq_def, ↓hopH.eq_def, ↓hwp.eq_def, ↓ldV.eq_def, ↓ldK.eq_def, ↓ixK.eq_def, ↓addOff.eq_def, ↓exK.eq_def, ↓notK.eq_def, ↓pickK.eq_def, ↓iop2.eq_def, ↓binK.eq_def, ↓eqop.eq_def, icells, ↓iop.eq_def, ↓cutK.eq_def, ↓lenK.eq_def, ↓lenM.eq_def, tyInt, ↓lookK.eq_def, ↓mpK.eq_def, keyV, allI, fitK, lkM, upM, dlM, kq, ↓cvK.eq_def, ↓mmK.eq_def, ↓biK.eq_def, ↓stK.eq_def, ↓apK.eq_def, ↓apD.eq_def, ↓apS.eq_def, nxt, put, setT, setB, delB, lkT_n, lkT_c, lkB_n, lkB_c, ev, ofC, inT, ofA, ofRet, dV_n, dV_c, getD_enc, toDs_dV, List.head?_cons, List.length_map, Option.toArray_some, Option.toArray_none, Int.toNat_natCast, slOf, TyK.agg, vcells, splice, pickOps, zOf, strip, stripP, gOf, allP, rowV, toDs, toD, toA, toAs, headOps, tailOps, isT, addN, Op.operands, Call.operands, List.map_cons, List.map_nil, List.drop_zero, List.drop_succ_cons, List.take_succ_cons, List.take_zero, List.length_cons, List.length_nil, List.getElem?_cons_zero, List.getElem?_cons_succ, List.getElem?_toArray, Option.bind_some, Option.map_some, Option.map_none, List.append_nil, List.nil_append, List.cons_append, if_true, if_false, reduceIte, Nat.reduceEqDiff, Nat.reduceAdd, Nat.reduceSub, Int.reduceToNat, Nat.reduceLeDiff, Nat.reduceLT, and_false, and_self, Nat.zero_add, Nat.add_zero, reduceCtorEq, Option.getD_some, Option.getD_none, Option.isSome_some, Option.isSome_none, forall_const, true_and, and_true, true_implies, Bool.true_and, Bool.false_and, Bool.and_true, Bool.and_false, Bool.true_or, Bool.false_or, Bool.or_true, Bool.or_false, beq_self_eq_true, zipM, zcells, Value.cells, Value.oneCell', List.toList_toArray, Array.toList_append, Bool.not_not, List.cons.injEq, Int.reduceEq, eq_self, false_and, Bool.not_true, Bool.not_false, ne_eq, not_false_eq_true, imp_self, implies_true, av_bt, av_bf, av_and, av_or, av_nf, av_tt, av_n1, av_n2, av_t1, av_tp, retQ, retL, resV, RetV, RetOk, SubL, snocE, entD_len, entD_take, entD_hd, entD_ln, entD_ic, entD_d1, entD_d2, entD_d3, entD_d4, entD_d5, entD_d6, entD_d7, ty_39, ty_3, ty_22, ty_4, hf]; try simp (disch := omega) only [av_w, av_t1, av_tp, Int.toNat_natCast]))
    exact Sub.refl _
  | true =>
    by_cases he : errS l day time = 0
    · have h24 : l.length ≤ 1024 := (checkL_ok (errS_zero he).1).1
      have hG := gstanding_spec l day time hl hk
      rw [he, stand_of he] at hG
      obtain ⟨xs, hxs⟩ : ∃ xs, xs = standRef day time l := ⟨_, rfl⟩
      have hxl : xs.length ≤ 1024 := by rw [hxs]; exact Nat.le_trans (List.length_filter_le _ _) h24
      have hm : List.Sublist (l.filter fun x => x.a == person) l := List.filter_sublist
      have s1 := gstanding_spec (l.filter fun x => x.a == person) day time (Nat.le_trans hm.length_le hl) (okE_kind fun x hx => hk' x (hm.subset hx))
      rw [errS_sub he hm, stand_of (errS_sub he hm), stand_person, ← hxs] at s1
      rw [← hxs] at hG
      have hfx : (xs.filter fun x => x.a == person).length ≤ 140737488351232 := Nat.le_trans (List.length_filter_le _ _) (by omega)
      have e1 := esame_spec (xs.filter fun x => x.a == person) (xs.filter fun x => x.a == person) hfx
      repeat' (first
        | (with_reducible refine aw_seq ?_)
        | ((with_reducible refine twoG_intro ?_ ?_) <;> intro hTw <;> first | (exact Bool.noConfusion hTw) | ((try simp only [hTw, Bool.not_true, Bool.not_false, Bool.true_and, Bool.false_and, Bool.and_true, Bool.and_false, Bool.true_or, Bool.false_or, Bool.or_true, Bool.or_false]); (first | (guard_hyp hTw : true = true; clear hTw) | (guard_hyp hTw : false = false; clear hTw) | (revert hTw; intro _))))
        | ((with_reducible refine two_intro ?_ ?_) <;> intro hTw <;> first | (exact Bool.noConfusion hTw) | ((first | (guard_hyp hTw : true = true; clear hTw) | (guard_hyp hTw : false = false; clear hTw) | (revert hTw; intro _))))
        | ((with_reducible refine And.intro ?_ ?_); (focus (first | omega | rfl | decide | grind)))
        | (with_reducible refine aw_block ?_)
        | (with_reducible refine aw_scope ?_)
        | ((first
            | ((with_reducible refine aw_regionA T_ok ?_ ?_); (focus kernel_rfl))
            | ((with_reducible refine aw_drawnA T_ok ?_ ?_ ?_ ?_); (focus kernel_rfl); (focus kernel_rfl); (focus kernel_rfl))
            | ((with_reducible refine callK_intro (rsane_spec) (by with_unfolding_all rfl) ?_ ?_); (focus kernel_rfl))
            | ((with_reducible refine callI_spec (rsane_spec) (by with_unfolding_all rfl) ?_ ?_ ?_); (focus kernel_rfl); (focus kernel_rfl))
            | ((with_reducible refine callK_intro (few_spec l hl) (by with_unfolding_all rfl) ?_ ?_); (focus kernel_rfl))
            | ((with_reducible refine callI_spec (few_spec l hl) (by with_unfolding_all rfl) ?_ ?_ ?_); (focus kernel_rfl); (focus kernel_rfl))
            | ((with_reducible refine callK_intro (hG) (by with_unfolding_all rfl) ?_ ?_); (focus kernel_rfl))
            | ((with_reducible refine callI_spec (hG) (by with_unfolding_all rfl) ?_ ?_ ?_); (focus kernel_rfl); (focus kernel_rfl))
            | ((with_reducible apply callI_in T_ok Try.func35); (focus (dsimp only [Try.f35])); (focus rfl); (focus rfl); (focus kernel_rfl); (focus exact of_decide_eq_true (by kernel_rfl)); (focus kernel_rfl); (focus kernel_rfl); intro _)
            | (with_reducible refine aw_label ?_)
            | ((with_reducible refine aw_rfM ?_ ?_); (focus kernel_rfl))
            | (with_reducible refine aw_skip ?_)
            | (with_reducible refine aw_exit ?_)
            | ((with_reducible refine aw_condM ?_ ?_); (focus kernel_rfl))
            | (with_reducible refine aw_ret ?_)
          ); simp only [↓rwp.eq_def, ↓sop.eq_def, ↓slotK.eq_def, inV, shT, unT, inQ, rfQ, rfEnd, resOf, pickT, setP, ydA, ydQ, rowW, vD, fillV,  ↓gop.eq_def, ↓hop.eq_def, ↓hopH.eq_def, ↓hwp.eq_def, ↓ldV.eq_def, ↓ldK.eq_def, ↓ixK.eq_def, ↓addOff.eq_def, ↓exK.eq_def, ↓notK.eq_def, ↓pickK.eq_def, ↓iop2.eq_def, ↓binK.eq_def, ↓eqop.eq_def, icells, ↓iop.eq_def, ↓cutK.eq_def, ↓lenK.eq_def, ↓lenM.eq_def, tyInt, ↓lookK.eq_def, ↓mpK.eq_def, keyV, allI, fitK, lkM, upM, dlM, kq, ↓cvK.eq_def, ↓mmK.eq_def, ↓biK.eq_def, ↓stK.eq_def, ↓apK.eq_def, ↓apD.eq_def, ↓apS.eq_def, nxt, put, setT, setB, delB, lkT_n, lkT_c, lkB_n, lkB_c, ev, ofC, inT, ofA, ofRet, dV_n, dV_c, getD_enc, toDs_dV, List.head?_cons, List.length_map, Option.toArray_some, Option.toArray_none, Int.toNat_natCast, slOf, TyK.agg, vcells, splice, pickOps, zOf, strip, stripP, gOf, allP, rowV, toDs, toD, toA, toAs, headOps, tailOps, isT, addN, Op.operands, Call.operands, List.map_cons, List.map_nil, List.drop_zero, List.drop_succ_cons, List.take_succ_cons, List.take_zero, List.length_cons, List.length_nil, List.getElem?_cons_zero, List.getElem?_cons_succ, List.getElem?_toArray, Option.bind_some, Option.map_some, Option.map_none, List.append_nil, List.nil_append, List.cons_append, if_true, if_false, reduceIte, Nat.reduceEqDiff, Nat.reduceAdd, Nat.reduceSub, Int.reduceToNat, Nat.reduceLeDiff, Nat.reduceLT, and_false, and_self, Nat.zero_add, Nat.add_zero, reduceCtorEq, Option.getD_some, Option.getD_none, Option.isSome_some, Option.isSome_none, forall_const, true_and, and_true, true_implies, Bool.true_and, Bool.false_and, Bool.and_true, Bool.and_false, Bool.true_or, Bool.false_or, Bool.or_true, Bool.or_false, beq_self_eq_true, zipM, zcells, Value.cells, Value.oneCell', List.toList_toArray, Array.toList_append, Bool.not_not, List.cons.injEq, Int.reduceEq, eq_self, false_and, Bool.not_true, Bool.not_false, ne_eq, not_false_eq_true, imp_self, implies_true, av_bt, av_bf, av_and, av_or, av_nf, av_tt, av_n1, av_n2, av_t1, av_tp, retQ, retL, resV, RetV, RetOk, SubL, snocE, entD_len, entD_take, entD_hd, entD_ln, entD_ic, entD_d1, entD_d2, entD_d3, entD_d4, entD_d5, entD_d6, entD_d7, ty_39, ty_3, ty_22, ty_4, hf]; try simp (disch := omega) only [av_w, av_t1, av_tp, Int.toNat_natCast]))
      refine aw_loopI (fun k : Nat => ⟨[(1, .ptr 0 0), (3, .ow 1 8 (entD default) (((l.take k).filter fun x => x.a == person).map entD)), (6, vEs l), (7, vI l.length), (8, vI k), (23, vI day), (24, vI time), (31, vEs xs), (33, .fn 35 [.ptr 0 0])], [(1, .tok 39 8 ((l.take k).filter fun x => x.a == person).length), (0, .cells 3 [vI person])], 2⟩) (fun k => k ≤ l.length) (fun k => l.length - k) 0 (Nat.zero_le _) (wk_of [(0, some 0), (1, none)] rfl rfl ?_ ?_) ?_
      · simp only [wkT, wkB, wkB1, subV, subVs, subD, subB, lkN_n, lkN_c, lkT_n, lkT_c, lkB_n, lkB_c, if_true, if_false, reduceIte, Nat.reduceEqDiff, true_and, and_true, and_self, inT, ofA]
        (repeat' (first | exact trivial | rfl | exact rfl | refine And.intro ?_ ?_))
      · simp only [wkT, wkB, wkB1, subV, subVs, subD, subB, lkN_n, lkN_c, lkT_n, lkT_c, lkB_n, lkB_c, if_true, if_false, reduceIte, Nat.reduceEqDiff, true_and, and_true, and_self, inT, ofA]
        (repeat' (first | exact trivial | rfl | exact rfl | refine And.intro ?_ ?_))
      intro k hk
      have b1 := filter_len l (fun x => x.a == person) k
      rcases Nat.lt_or_ge k l.length with hlt | hge
      · have hd := ltd hlt
        have hs1 := filter_snoc l (fun x => x.a == person) k hlt
        cases hm1 : (l.getD k default).a == person
        all_goals rw [hm1] at hs1
        all_goals simp only [if_true, Bool.false_eq_true, if_false, List.append_nil] at hs1
        · repeat' (first
            | (with_reducible refine aw_seq ?_)
            | ((with_reducible refine twoG_intro ?_ ?_) <;> intro hTw <;> first | (exact Bool.noConfusion hTw) | ((try simp only [hTw, Bool.not_true, Bool.not_false, Bool.true_and, Bool.false_and, Bool.and_true, Bool.and_false, Bool.true_or, Bool.false_or, Bool.or_true, Bool.or_false]); (first | (guard_hyp hTw : true = true; clear hTw) | (guard_hyp hTw : false = false; clear hTw) | (revert hTw; intro _))))
            | ((with_reducible refine two_intro ?_ ?_) <;> intro hTw <;> first | (exact Bool.noConfusion hTw) | ((first | (guard_hyp hTw : true = true; clear hTw) | (guard_hyp hTw : false = false; clear hTw) | (revert hTw; intro _))))
            | ((with_reducible refine And.intro ?_ ?_); (focus (first | omega | rfl | decide | grind)))
            | (with_reducible refine aw_block ?_)
            | (with_reducible refine aw_scope ?_)
            | ((first
                | ((with_reducible refine aw_regionA T_ok ?_ ?_); (focus kernel_rfl))
                | ((with_reducible refine aw_drawnA T_ok ?_ ?_ ?_ ?_); (focus kernel_rfl); (focus kernel_rfl); (focus kernel_rfl))
                | (with_reducible refine aw_label ?_)
                | ((with_reducible refine aw_rfM ?_ ?_); (focus kernel_rfl))
                | (with_reducible refine aw_skip ?_)
                | (with_reducible refine aw_exit ?_)
                | ((with_reducible refine aw_condM ?_ ?_); (focus kernel_rfl))
                | (with_reducible refine aw_ret ?_)
              ); simp only [↓rwp.eq_def, ↓sop.eq_def, ↓slotK.eq_def, inV, shT, unT, inQ, rfQ, rfEnd, resOf, pickT, setP, ydA, ydQ, rowW, vD, fillV,  ↓gop.eq_def, ↓hop.eq_def, ↓hopH.eq_def, ↓hwp.eq_def, ↓ldV.eq_def, ↓ldK.eq_def, ↓ixK.eq_def, ↓addOff.eq_def, ↓exK.eq_def, ↓notK.eq_def, ↓pickK.eq_def, ↓iop2.eq_def, ↓binK.eq_def, ↓eqop.eq_def, icells, ↓iop.eq_def, ↓cutK.eq_def, ↓lenK.eq_def, ↓lenM.eq_def, tyInt, ↓lookK.eq_def, ↓mpK.eq_def, keyV, allI, fitK, lkM, upM, dlM, kq, ↓cvK.eq_def, ↓mmK.eq_def, ↓biK.eq_def, ↓stK.eq_def, ↓apK.eq_def, ↓apD.eq_def, ↓apS.eq_def, nxt, put, setT, setB, delB, lkT_n, lkT_c, lkB_n, lkB_c, ev, ofC, inT, ofA, ofRet, dV_n, dV_c, getD_enc, toDs_dV, List.head?_cons, List.length_map, Option.toArray_some, Option.toArray_none, Int.toNat_natCast, slOf, TyK.agg, vcells, splice, pickOps, zOf, strip, stripP, gOf, allP, rowV, toDs, toD, toA, toAs, headOps, tailOps, isT, addN, Op.operands, Call.operands, List.map_cons, List.map_nil, List.drop_zero, List.drop_succ_cons, List.take_succ_cons, List.take_zero, List.length_cons, List.length_nil, List.getElem?_cons_zero, List.getElem?_cons_succ, List.getElem?_toArray, Option.bind_some, Option.map_some, Option.map_none, List.append_nil, List.nil_append, List.cons_append, if_true, if_false, reduceIte, Nat.reduceEqDiff, Nat.reduceAdd, Nat.reduceSub, Int.reduceToNat, Nat.reduceLeDiff, Nat.reduceLT, and_false, and_self, Nat.zero_add, Nat.add_zero, reduceCtorEq, Option.getD_some, Option.getD_none, Option.isSome_some, Option.isSome_none, forall_const, true_and, and_true, true_implies, Bool.true_and, Bool.false_and, Bool.and_true, Bool.and_false, Bool.true_or, Bool.false_or, Bool.or_true, Bool.or_false, beq_self_eq_true, zipM, zcells, Value.cells, Value.oneCell', List.toList_toArray, Array.toList_append, Bool.not_not, List.cons.injEq, Int.reduceEq, eq_self, false_and, Bool.not_true, Bool.not_false, ne_eq, not_false_eq_true, imp_self, implies_true, av_bt, av_bf, av_and, av_or, av_nf, av_tt, av_n1, av_n2, av_t1, av_tp, retQ, retL, resV, RetV, RetOk, SubL, snocE, entD_len, entD_take, entD_hd, entD_ln, entD_ic, entD_d1, entD_d2, entD_d3, entD_d4, entD_d5, entD_d6, entD_d7, ty_39, ty_3, ty_22, ty_4, hd, hm1]; try simp (disch := omega) only [av_w, av_t1, av_tp, Int.toNat_natCast]))
          refine ⟨k + 1, by omega, by dsimp only; omega, wk_of [(0, some 0), (1, some 1)] rfl rfl ?_ ?_⟩
          · simp only [wkT, wkB, wkB1, subV, subVs, subD, subB, lkN_n, lkN_c, lkT_n, lkT_c, lkB_n, lkB_c, if_true, if_false, reduceIte, Nat.reduceEqDiff, true_and, and_true, and_self, inT, ofA]
            all_goals (try rw [hs1])
            all_goals (repeat' (first | exact trivial | rfl | exact rfl | refine And.intro ?_ ?_))
          · simp only [wkT, wkB, wkB1, subV, subVs, subD, subB, lkN_n, lkN_c, lkT_n, lkT_c, lkB_n, lkB_c, if_true, if_false, reduceIte, Nat.reduceEqDiff, true_and, and_true, and_self, inT, ofA]
            all_goals (try rw [hs1])
            all_goals (try simp)
        · repeat' (first
            | (with_reducible refine aw_seq ?_)
            | ((with_reducible refine twoG_intro ?_ ?_) <;> intro hTw <;> first | (exact Bool.noConfusion hTw) | ((try simp only [hTw, Bool.not_true, Bool.not_false, Bool.true_and, Bool.false_and, Bool.and_true, Bool.and_false, Bool.true_or, Bool.false_or, Bool.or_true, Bool.or_false]); (first | (guard_hyp hTw : true = true; clear hTw) | (guard_hyp hTw : false = false; clear hTw) | (revert hTw; intro _))))
            | ((with_reducible refine two_intro ?_ ?_) <;> intro hTw <;> first | (exact Bool.noConfusion hTw) | ((first | (guard_hyp hTw : true = true; clear hTw) | (guard_hyp hTw : false = false; clear hTw) | (revert hTw; intro _))))
            | ((with_reducible refine And.intro ?_ ?_); (focus (first | omega | rfl | decide | grind)))
            | (with_reducible refine aw_block ?_)
            | (with_reducible refine aw_scope ?_)
            | ((first
                | ((with_reducible refine aw_regionA T_ok ?_ ?_); (focus kernel_rfl))
                | ((with_reducible refine aw_drawnA T_ok ?_ ?_ ?_ ?_); (focus kernel_rfl); (focus kernel_rfl); (focus kernel_rfl))
                | (with_reducible refine aw_label ?_)
                | ((with_reducible refine aw_rfM ?_ ?_); (focus kernel_rfl))
                | (with_reducible refine aw_skip ?_)
                | (with_reducible refine aw_exit ?_)
                | ((with_reducible refine aw_condM ?_ ?_); (focus kernel_rfl))
                | (with_reducible refine aw_ret ?_)
              ); simp only [↓rwp.eq_def, ↓sop.eq_def, ↓slotK.eq_def, inV, shT, unT, inQ, rfQ, rfEnd, resOf, pickT, setP, ydA, ydQ, rowW, vD, fillV,  ↓gop.eq_def, ↓hop.eq_def, ↓hopH.eq_def, ↓hwp.eq_def, ↓ldV.eq_def, ↓ldK.eq_def, ↓ixK.eq_def, ↓addOff.eq_def, ↓exK.eq_def, ↓notK.eq_def, ↓pickK.eq_def, ↓iop2.eq_def, ↓binK.eq_def, ↓eqop.eq_def, icells, ↓iop.eq_def, ↓cutK.eq_def, ↓lenK.eq_def, ↓lenM.eq_def, tyInt, ↓lookK.eq_def, ↓mpK.eq_def, keyV, allI, fitK, lkM, upM, dlM, kq, ↓cvK.eq_def, ↓mmK.eq_def, ↓biK.eq_def, ↓stK.eq_def, ↓apK.eq_def, ↓apD.eq_def, ↓apS.eq_def, nxt, put, setT, setB, delB, lkT_n, lkT_c, lkB_n, lkB_c, ev, ofC, inT, ofA, ofRet, dV_n, dV_c, getD_enc, toDs_dV, List.head?_cons, List.length_map, Option.toArray_some, Option.toArray_none, Int.toNat_natCast, slOf, TyK.agg, vcells, splice, pickOps, zOf, strip, stripP, gOf, allP, rowV, toDs, toD, toA, toAs, headOps, tailOps, isT, addN, Op.operands, Call.operands, List.map_cons, List.map_nil, List.drop_zero, List.drop_succ_cons, List.take_succ_cons, List.take_zero, List.length_cons, List.length_nil, List.getElem?_cons_zero, List.getElem?_cons_succ, List.getElem?_toArray, Option.bind_some, Option.map_some, Option.map_none, List.append_nil, List.nil_append, List.cons_append, if_true, if_false, reduceIte, Nat.reduceEqDiff, Nat.reduceAdd, Nat.reduceSub, Int.reduceToNat, Nat.reduceLeDiff, Nat.reduceLT, and_false, and_self, Nat.zero_add, Nat.add_zero, reduceCtorEq, Option.getD_some, Option.getD_none, Option.isSome_some, Option.isSome_none, forall_const, true_and, and_true, true_implies, Bool.true_and, Bool.false_and, Bool.and_true, Bool.and_false, Bool.true_or, Bool.false_or, Bool.or_true, Bool.or_false, beq_self_eq_true, zipM, zcells, Value.cells, Value.oneCell', List.toList_toArray, Array.toList_append, Bool.not_not, List.cons.injEq, Int.reduceEq, eq_self, false_and, Bool.not_true, Bool.not_false, ne_eq, not_false_eq_true, imp_self, implies_true, av_bt, av_bf, av_and, av_or, av_nf, av_tt, av_n1, av_n2, av_t1, av_tp, retQ, retL, resV, RetV, RetOk, SubL, snocE, entD_len, entD_take, entD_hd, entD_ln, entD_ic, entD_d1, entD_d2, entD_d3, entD_d4, entD_d5, entD_d6, entD_d7, ty_39, ty_3, ty_22, ty_4, hd, hm1]; try simp (disch := omega) only [av_w, av_t1, av_tp, Int.toNat_natCast]))
          refine ⟨k + 1, by omega, by dsimp only; omega, wk_of [(0, some 0), (1, some 4)] rfl rfl ?_ ?_⟩
          · simp only [wkT, wkB, wkB1, subV, subVs, subD, subB, lkN_n, lkN_c, lkT_n, lkT_c, lkB_n, lkB_c, if_true, if_false, reduceIte, Nat.reduceEqDiff, true_and, and_true, and_self, inT, ofA]
            all_goals (try rw [hs1])
            all_goals (repeat' (first | exact trivial | rfl | exact rfl | refine And.intro ?_ ?_))
          · simp only [wkT, wkB, wkB1, subV, subVs, subD, subB, lkN_n, lkN_c, lkT_n, lkT_c, lkB_n, lkB_c, if_true, if_false, reduceIte, Nat.reduceEqDiff, true_and, and_true, and_self, inT, ofA]
            all_goals (try rw [hs1])
            all_goals (try simp)
      · obtain rfl : k = l.length := by omega
        have hd := ged (Nat.le_refl l.length)
        rw [List.take_length]
        repeat' (first
          | (with_reducible refine aw_seq ?_)
          | ((with_reducible refine twoG_intro ?_ ?_) <;> intro hTw <;> first | (exact Bool.noConfusion hTw) | ((try simp only [hTw, Bool.not_true, Bool.not_false, Bool.true_and, Bool.false_and, Bool.and_true, Bool.and_false, Bool.true_or, Bool.false_or, Bool.or_true, Bool.or_false]); (first | (guard_hyp hTw : true = true; clear hTw) | (guard_hyp hTw : false = false; clear hTw) | (revert hTw; intro _))))
          | ((with_reducible refine two_intro ?_ ?_) <;> intro hTw <;> first | (exact Bool.noConfusion hTw) | ((first | (guard_hyp hTw : true = true; clear hTw) | (guard_hyp hTw : false = false; clear hTw) | (revert hTw; intro _))))
          | ((with_reducible refine And.intro ?_ ?_); (focus (first | omega | rfl | decide | grind)))
          | (with_reducible refine aw_block ?_)
          | (with_reducible refine aw_scope ?_)
          | ((first
              | ((with_reducible refine aw_regionA T_ok ?_ ?_); (focus kernel_rfl))
              | ((with_reducible refine aw_drawnA T_ok ?_ ?_ ?_ ?_); (focus kernel_rfl); (focus kernel_rfl); (focus kernel_rfl))
              | ((with_reducible refine callK_intro (s1) (by with_unfolding_all rfl) ?_ ?_); (focus kernel_rfl))
              | ((with_reducible refine callI_spec (s1) (by with_unfolding_all rfl) ?_ ?_ ?_); (focus kernel_rfl); (focus kernel_rfl))
              | ((with_reducible apply callI_in T_ok Try.func35); (focus (dsimp only [Try.f35])); (focus rfl); (focus rfl); (focus kernel_rfl); (focus exact of_decide_eq_true (by kernel_rfl)); (focus kernel_rfl); (focus kernel_rfl); intro _)
              | (with_reducible refine aw_label ?_)
              | ((with_reducible refine aw_rfM ?_ ?_); (focus kernel_rfl))
              | (with_reducible refine aw_skip ?_)
              | (with_reducible refine aw_exit ?_)
              | ((with_reducible refine aw_condM ?_ ?_); (focus kernel_rfl))
              | (with_reducible refine aw_ret ?_)
            ); simp only [↓rwp.eq_def, ↓sop.eq_def, ↓slotK.eq_def, inV, shT, unT, inQ, rfQ, rfEnd, resOf, pickT, setP, ydA, ydQ, rowW, vD, fillV,  ↓gop.eq_def, ↓hop.eq_def, ↓hopH.eq_def, ↓hwp.eq_def, ↓ldV.eq_def, ↓ldK.eq_def, ↓ixK.eq_def, ↓addOff.eq_def, ↓exK.eq_def, ↓notK.eq_def, ↓pickK.eq_def, ↓iop2.eq_def, ↓binK.eq_def, ↓eqop.eq_def, icells, ↓iop.eq_def, ↓cutK.eq_def, ↓lenK.eq_def, ↓lenM.eq_def, tyInt, ↓lookK.eq_def, ↓mpK.eq_def, keyV, allI, fitK, lkM, upM, dlM, kq, ↓cvK.eq_def, ↓mmK.eq_def, ↓biK.eq_def, ↓stK.eq_def, ↓apK.eq_def, ↓apD.eq_def, ↓apS.eq_def, nxt, put, setT, setB, delB, lkT_n, lkT_c, lkB_n, lkB_c, ev, ofC, inT, ofA, ofRet, dV_n, dV_c, getD_enc, toDs_dV, List.head?_cons, List.length_map, Option.toArray_some, Option.toArray_none, Int.toNat_natCast, slOf, TyK.agg, vcells, splice, pickOps, zOf, strip, stripP, gOf, allP, rowV, toDs, toD, toA, toAs, headOps, tailOps, isT, addN, Op.operands, Call.operands, List.map_cons, List.map_nil, List.drop_zero, List.drop_succ_cons, List.take_succ_cons, List.take_zero, List.length_cons, List.length_nil, List.getElem?_cons_zero, List.getElem?_cons_succ, List.getElem?_toArray, Option.bind_some, Option.map_some, Option.map_none, List.append_nil, List.nil_append, List.cons_append, if_true, if_false, reduceIte, Nat.reduceEqDiff, Nat.reduceAdd, Nat.reduceSub, Int.reduceToNat, Nat.reduceLeDiff, Nat.reduceLT, and_false, and_self, Nat.zero_add, Nat.add_zero, reduceCtorEq, Option.getD_some, Option.getD_none, Option.isSome_some, Option.isSome_none, forall_const, true_and, and_true, true_implies, Bool.true_and, Bool.false_and, Bool.and_true, Bool.and_false, Bool.true_or, Bool.false_or, Bool.or_true, Bool.or_false, beq_self_eq_true, zipM, zcells, Value.cells, Value.oneCell', List.toList_toArray, Array.toList_append, Bool.not_not, List.cons.injEq, Int.reduceEq, eq_self, false_and, Bool.not_true, Bool.not_false, ne_eq, not_false_eq_true, imp_self, implies_true, av_bt, av_bf, av_and, av_or, av_nf, av_tt, av_n1, av_n2, av_t1, av_tp, retQ, retL, resV, RetV, RetOk, SubL, snocE, entD_len, entD_take, entD_hd, entD_ln, entD_ic, entD_d1, entD_d2, entD_d3, entD_d4, entD_d5, entD_d6, entD_d7, ty_39, ty_3, ty_22, ty_4, hd]; try simp (disch := omega) only [av_w, av_t1, av_tp, Int.toNat_natCast]))
        refine aw_loopI (fun k : Nat => ⟨[(1, .ptr 0 0), (3, .ow 1 8 (entD default) (((xs.take k).filter fun x => x.a == person).map entD)), (6, vEs xs), (7, vI xs.length), (8, vI k), (62, vB true), (63, .cond true (vEs (xs.filter fun x => x.a == person))), (64, .cond true (.fn 35 [.ptr 0 0])), (65, .cond true (vEs xs))], [(1, .tok 39 8 ((xs.take k).filter fun x => x.a == person).length), (0, .cells 3 [vI person])], 2⟩) (fun k => k ≤ xs.length) (fun k => xs.length - k) 0 (Nat.zero_le _) (wk_of [(0, some 0), (1, none)] rfl rfl ?_ ?_) ?_
        · simp only [wkT, wkB, wkB1, subV, subVs, subD, subB, lkN_n, lkN_c, lkT_n, lkT_c, lkB_n, lkB_c, if_true, if_false, reduceIte, Nat.reduceEqDiff, true_and, and_true, and_self, inT, ofA]
          (repeat' (first | exact trivial | rfl | exact rfl | refine And.intro ?_ ?_))
        · simp only [wkT, wkB, wkB1, subV, subVs, subD, subB, lkN_n, lkN_c, lkT_n, lkT_c, lkB_n, lkB_c, if_true, if_false, reduceIte, Nat.reduceEqDiff, true_and, and_true, and_self, inT, ofA]
          (repeat' (first | exact trivial | rfl | exact rfl | refine And.intro ?_ ?_))
        intro k hk
        have b1 := filter_len xs (fun x => x.a == person) k
        rcases Nat.lt_or_ge k xs.length with hlt | hge
        · have hd := ltd hlt
          have hs1 := filter_snoc xs (fun x => x.a == person) k hlt
          cases hm1 : (xs.getD k default).a == person
          all_goals rw [hm1] at hs1
          all_goals simp only [if_true, Bool.false_eq_true, if_false, List.append_nil] at hs1
          · repeat' (first
              | (with_reducible refine aw_seq ?_)
              | ((with_reducible refine twoG_intro ?_ ?_) <;> intro hTw <;> first | (exact Bool.noConfusion hTw) | ((try simp only [hTw, Bool.not_true, Bool.not_false, Bool.true_and, Bool.false_and, Bool.and_true, Bool.and_false, Bool.true_or, Bool.false_or, Bool.or_true, Bool.or_false]); (first | (guard_hyp hTw : true = true; clear hTw) | (guard_hyp hTw : false = false; clear hTw) | (revert hTw; intro _))))
              | ((with_reducible refine two_intro ?_ ?_) <;> intro hTw <;> first | (exact Bool.noConfusion hTw) | ((first | (guard_hyp hTw : true = true; clear hTw) | (guard_hyp hTw : false = false; clear hTw) | (revert hTw; intro _))))
              | ((with_reducible refine And.intro ?_ ?_); (focus (first | omega | rfl | decide | grind)))
              | (with_reducible refine aw_block ?_)
              | (with_reducible refine aw_scope ?_)
              | ((first
                  | ((with_reducible refine aw_regionA T_ok ?_ ?_); (focus kernel_rfl))
                  | ((with_reducible refine aw_drawnA T_ok ?_ ?_ ?_ ?_); (focus kernel_rfl); (focus kernel_rfl); (focus kernel_rfl))
                  | (with_reducible refine aw_label ?_)
                  | ((with_reducible refine aw_rfM ?_ ?_); (focus kernel_rfl))
                  | (with_reducible refine aw_skip ?_)
                  | (with_reducible refine aw_exit ?_)
                  | ((with_reducible refine aw_condM ?_ ?_); (focus kernel_rfl))
                  | (with_reducible refine aw_ret ?_)
                ); simp only [↓rwp.eq_def, ↓sop.eq_def, ↓slotK.eq_def, inV, shT, unT, inQ, rfQ, rfEnd, resOf, pickT, setP, ydA, ydQ, rowW, vD, fillV,  ↓gop.eq_def, ↓hop.eq_def, ↓hopH.eq_def, ↓hwp.eq_def, ↓ldV.eq_def, ↓ldK.eq_def, ↓ixK.eq_def, ↓addOff.eq_def, ↓exK.eq_def, ↓notK.eq_def, ↓pickK.eq_def, ↓iop2.eq_def, ↓binK.eq_def, ↓eqop.eq_def, icells, ↓iop.eq_def, ↓cutK.eq_def, ↓lenK.eq_def, ↓lenM.eq_def, tyInt, ↓lookK.eq_def, ↓mpK.eq_def, keyV, allI, fitK, lkM, upM, dlM, kq, ↓cvK.eq_def, ↓mmK.eq_def, ↓biK.eq_def, ↓stK.eq_def, ↓apK.eq_def, ↓apD.eq_def, ↓apS.eq_def, nxt, put, setT, setB, delB, lkT_n, lkT_c, lkB_n, lkB_c, ev, ofC, inT, ofA, ofRet, dV_n, dV_c, getD_enc, toDs_dV, List.head?_cons, List.length_map, Option.toArray_some, Option.toArray_none, Int.toNat_natCast, slOf, TyK.agg, vcells, splice, pickOps, zOf, strip, stripP, gOf, allP, rowV, toDs, toD, toA, toAs, headOps, tailOps, isT, addN, Op.operands, Call.operands, List.map_cons, List.map_nil, List.drop_zero, List.drop_succ_cons, List.take_succ_cons, List.take_zero, List.length_cons, List.length_nil, List.getElem?_cons_zero, List.getElem?_cons_succ, List.getElem?_toArray, Option.bind_some, Option.map_some, Option.map_none, List.append_nil, List.nil_append, List.cons_append, if_true, if_false, reduceIte, Nat.reduceEqDiff, Nat.reduceAdd, Nat.reduceSub, Int.reduceToNat, Nat.reduceLeDiff, Nat.reduceLT, and_false, and_self, Nat.zero_add, Nat.add_zero, reduceCtorEq, Option.getD_some, Option.getD_none, Option.isSome_some, Option.isSome_none, forall_const, true_and, and_true, true_implies, Bool.true_and, Bool.false_and, Bool.and_true, Bool.and_false, Bool.true_or, Bool.false_or, Bool.or_true, Bool.or_false, beq_self_eq_true, zipM, zcells, Value.cells, Value.oneCell', List.toList_toArray, Array.toList_append, Bool.not_not, List.cons.injEq, Int.reduceEq, eq_self, false_and, Bool.not_true, Bool.not_false, ne_eq, not_false_eq_true, imp_self, implies_true, av_bt, av_bf, av_and, av_or, av_nf, av_tt, av_n1, av_n2, av_t1, av_tp, retQ, retL, resV, RetV, RetOk, SubL, snocE, entD_len, entD_take, entD_hd, entD_ln, entD_ic, entD_d1, entD_d2, entD_d3, entD_d4, entD_d5, entD_d6, entD_d7, ty_39, ty_3, ty_22, ty_4, hd, hm1]; try simp (disch := omega) only [av_w, av_t1, av_tp, Int.toNat_natCast]))
            refine ⟨k + 1, by omega, by dsimp only; omega, wk_of [(0, some 0), (1, some 1)] rfl rfl ?_ ?_⟩
            · simp only [wkT, wkB, wkB1, subV, subVs, subD, subB, lkN_n, lkN_c, lkT_n, lkT_c, lkB_n, lkB_c, if_true, if_false, reduceIte, Nat.reduceEqDiff, true_and, and_true, and_self, inT, ofA]
              all_goals (try rw [hs1])
              all_goals (repeat' (first | exact trivial | rfl | exact rfl | refine And.intro ?_ ?_))
            · simp only [wkT, wkB, wkB1, subV, subVs, subD, subB, lkN_n, lkN_c, lkT_n, lkT_c, lkB_n, lkB_c, if_true, if_false, reduceIte, Nat.reduceEqDiff, true_and, and_true, and_self, inT, ofA]
              all_goals (try rw [hs1])
              all_goals (try simp)
          · repeat' (first
              | (with_reducible refine aw_seq ?_)
              | ((with_reducible refine twoG_intro ?_ ?_) <;> intro hTw <;> first | (exact Bool.noConfusion hTw) | ((try simp only [hTw, Bool.not_true, Bool.not_false, Bool.true_and, Bool.false_and, Bool.and_true, Bool.and_false, Bool.true_or, Bool.false_or, Bool.or_true, Bool.or_false]); (first | (guard_hyp hTw : true = true; clear hTw) | (guard_hyp hTw : false = false; clear hTw) | (revert hTw; intro _))))
              | ((with_reducible refine two_intro ?_ ?_) <;> intro hTw <;> first | (exact Bool.noConfusion hTw) | ((first | (guard_hyp hTw : true = true; clear hTw) | (guard_hyp hTw : false = false; clear hTw) | (revert hTw; intro _))))
              | ((with_reducible refine And.intro ?_ ?_); (focus (first | omega | rfl | decide | grind)))
              | (with_reducible refine aw_block ?_)
              | (with_reducible refine aw_scope ?_)
              | ((first
                  | ((with_reducible refine aw_regionA T_ok ?_ ?_); (focus kernel_rfl))
                  | ((with_reducible refine aw_drawnA T_ok ?_ ?_ ?_ ?_); (focus kernel_rfl); (focus kernel_rfl); (focus kernel_rfl))
                  | (with_reducible refine aw_label ?_)
                  | ((with_reducible refine aw_rfM ?_ ?_); (focus kernel_rfl))
                  | (with_reducible refine aw_skip ?_)
                  | (with_reducible refine aw_exit ?_)
                  | ((with_reducible refine aw_condM ?_ ?_); (focus kernel_rfl))
                  | (with_reducible refine aw_ret ?_)
                ); simp only [↓rwp.eq_def, ↓sop.eq_def, ↓slotK.eq_def, inV, shT, unT, inQ, rfQ, rfEnd, resOf, pickT, setP, ydA, ydQ, rowW, vD, fillV,  ↓gop.eq_def, ↓hop.eq_def, ↓hopH.eq_def, ↓hwp.eq_def, ↓ldV.eq_def, ↓ldK.eq_def, ↓ixK.eq_def, ↓addOff.eq_def, ↓exK.eq_def, ↓notK.eq_def, ↓pickK.eq_def, ↓iop2.eq_def, ↓binK.eq_def, ↓eqop.eq_def, icells, ↓iop.eq_def, ↓cutK.eq_def, ↓lenK.eq_def, ↓lenM.eq_def, tyInt, ↓lookK.eq_def, ↓mpK.eq_def, keyV, allI, fitK, lkM, upM, dlM, kq, ↓cvK.eq_def, ↓mmK.eq_def, ↓biK.eq_def, ↓stK.eq_def, ↓apK.eq_def, ↓apD.eq_def, ↓apS.eq_def, nxt, put, setT, setB, delB, lkT_n, lkT_c, lkB_n, lkB_c, ev, ofC, inT, ofA, ofRet, dV_n, dV_c, getD_enc, toDs_dV, List.head?_cons, List.length_map, Option.toArray_some, Option.toArray_none, Int.toNat_natCast, slOf, TyK.agg, vcells, splice, pickOps, zOf, strip, stripP, gOf, allP, rowV, toDs, toD, toA, toAs, headOps, tailOps, isT, addN, Op.operands, Call.operands, List.map_cons, List.map_nil, List.drop_zero, List.drop_succ_cons, List.take_succ_cons, List.take_zero, List.length_cons, List.length_nil, List.getElem?_cons_zero, List.getElem?_cons_succ, List.getElem?_toArray, Option.bind_some, Option.map_some, Option.map_none, List.append_nil, List.nil_append, List.cons_append, if_true, if_false, reduceIte, Nat.reduceEqDiff, Nat.reduceAdd, Nat.reduceSub, Int.reduceToNat, Nat.reduceLeDiff, Nat.reduceLT, and_false, and_self, Nat.zero_add, Nat.add_zero, reduceCtorEq, Option.getD_some, Option.getD_none, Option.isSome_some, Option.isSome_none, forall_const, true_and, and_true, true_implies, Bool.true_and, Bool.false_and, Bool.and_true, Bool.and_false, Bool.true_or, Bool.false_or, Bool.or_true, Bool.or_false, beq_self_eq_true, zipM, zcells, Value.cells, Value.oneCell', List.toList_toArray, Array.toList_append, Bool.not_not, List.cons.injEq, Int.reduceEq, eq_self, false_and, Bool.not_true, Bool.not_false, ne_eq, not_false_eq_true, imp_self, implies_true, av_bt, av_bf, av_and, av_or, av_nf, av_tt, av_n1, av_n2, av_t1, av_tp, retQ, retL, resV, RetV, RetOk, SubL, snocE, entD_len, entD_take, entD_hd, entD_ln, entD_ic, entD_d1, entD_d2, entD_d3, entD_d4, entD_d5, entD_d6, entD_d7, ty_39, ty_3, ty_22, ty_4, hd, hm1]; try simp (disch := omega) only [av_w, av_t1, av_tp, Int.toNat_natCast]))
            refine ⟨k + 1, by omega, by dsimp only; omega, wk_of [(0, some 0), (1, some 4)] rfl rfl ?_ ?_⟩
            · simp only [wkT, wkB, wkB1, subV, subVs, subD, subB, lkN_n, lkN_c, lkT_n, lkT_c, lkB_n, lkB_c, if_true, if_false, reduceIte, Nat.reduceEqDiff, true_and, and_true, and_self, inT, ofA]
              all_goals (try rw [hs1])
              all_goals (repeat' (first | exact trivial | rfl | exact rfl | refine And.intro ?_ ?_))
            · simp only [wkT, wkB, wkB1, subV, subVs, subD, subB, lkN_n, lkN_c, lkT_n, lkT_c, lkB_n, lkB_c, if_true, if_false, reduceIte, Nat.reduceEqDiff, true_and, and_true, and_self, inT, ofA]
              all_goals (try rw [hs1])
              all_goals (try simp)
        · obtain rfl : k = xs.length := by omega
          have hd := ged (Nat.le_refl xs.length)
          rw [List.take_length]
          repeat' (first
            | (with_reducible refine aw_seq ?_)
            | ((with_reducible refine twoG_intro ?_ ?_) <;> intro hTw <;> first | (exact Bool.noConfusion hTw) | ((try simp only [hTw, Bool.not_true, Bool.not_false, Bool.true_and, Bool.false_and, Bool.and_true, Bool.and_false, Bool.true_or, Bool.false_or, Bool.or_true, Bool.or_false]); (first | (guard_hyp hTw : true = true; clear hTw) | (guard_hyp hTw : false = false; clear hTw) | (revert hTw; intro _))))
            | ((with_reducible refine two_intro ?_ ?_) <;> intro hTw <;> first | (exact Bool.noConfusion hTw) | ((first | (guard_hyp hTw : true = true; clear hTw) | (guard_hyp hTw : false = false; clear hTw) | (revert hTw; intro _))))
            | ((with_reducible refine And.intro ?_ ?_); (focus (first | omega | rfl | decide | grind)))
            | (with_reducible refine aw_block ?_)
            | (with_reducible refine aw_scope ?_)
            | ((first
                | ((with_reducible refine aw_regionA T_ok ?_ ?_); (focus kernel_rfl))
                | ((with_reducible refine aw_drawnA T_ok ?_ ?_ ?_ ?_); (focus kernel_rfl); (focus kernel_rfl); (focus kernel_rfl))
                | ((with_reducible refine callK_intro (e1) (by with_unfolding_all rfl) ?_ ?_); (focus kernel_rfl))
                | ((with_reducible refine callI_spec (e1) (by with_unfolding_all rfl) ?_ ?_ ?_); (focus kernel_rfl); (focus kernel_rfl))
                | (with_reducible refine aw_label ?_)
                | ((with_reducible refine aw_rfM ?_ ?_); (focus kernel_rfl))
                | (with_reducible refine aw_skip ?_)
                | (with_reducible refine aw_exit ?_)
                | ((with_reducible refine aw_condM ?_ ?_); (focus kernel_rfl))
                | (with_reducible refine aw_ret ?_)
              ); simp only [↓rwp.eq_def, ↓sop.eq_def, ↓slotK.eq_def, inV, shT, unT, inQ, rfQ, rfEnd, resOf, pickT, setP, ydA, ydQ, rowW, vD, fillV,  ↓gop.eq_def, ↓hop.eq_def, ↓hopH.eq_def, ↓hwp.eq_def, ↓ldV.eq_def, ↓ldK.eq_def, ↓ixK.eq_def, ↓addOff.eq_def, ↓exK.eq_def, ↓notK.eq_def, ↓pickK.eq_def, ↓iop2.eq_def, ↓binK.eq_def, ↓eqop.eq_def, icells, ↓iop.eq_def, ↓cutK.eq_def, ↓lenK.eq_def, ↓lenM.eq_def, tyInt, ↓lookK.eq_def, ↓mpK.eq_def, keyV, allI, fitK, lkM, upM, dlM, kq, ↓cvK.eq_def, ↓mmK.eq_def, ↓biK.eq_def, ↓stK.eq_def, ↓apK.eq_def, ↓apD.eq_def, ↓apS.eq_def, nxt, put, setT, setB, delB, lkT_n, lkT_c, lkB_n, lkB_c, ev, ofC, inT, ofA, ofRet, dV_n, dV_c, getD_enc, toDs_dV, List.head?_cons, List.length_map, Option.toArray_some, Option.toArray_none, Int.toNat_natCast, slOf, TyK.agg, vcells, splice, pickOps, zOf, strip, stripP, gOf, allP, rowV, toDs, toD, toA, toAs, headOps, tailOps, isT, addN, Op.operands, Call.operands, List.map_cons, List.map_nil, List.drop_zero, List.drop_succ_cons, List.take_succ_cons, List.take_zero, List.length_cons, List.length_nil, List.getElem?_cons_zero, List.getElem?_cons_succ, List.getElem?_toArray, Option.bind_some, Option.map_some, Option.map_none, List.append_nil, List.nil_append, List.cons_append, if_true, if_false, reduceIte, Nat.reduceEqDiff, Nat.reduceAdd, Nat.reduceSub, Int.reduceToNat, Nat.reduceLeDiff, Nat.reduceLT, and_false, and_self, Nat.zero_add, Nat.add_zero, reduceCtorEq, Option.getD_some, Option.getD_none, Option.isSome_some, Option.isSome_none, forall_const, true_and, and_true, true_implies, Bool.true_and, Bool.false_and, Bool.and_true, Bool.and_false, Bool.true_or, Bool.false_or, Bool.or_true, Bool.or_false, beq_self_eq_true, zipM, zcells, Value.cells, Value.oneCell', List.toList_toArray, Array.toList_append, Bool.not_not, List.cons.injEq, Int.reduceEq, eq_self, false_and, Bool.not_true, Bool.not_false, ne_eq, not_false_eq_true, imp_self, implies_true, av_bt, av_bf, av_and, av_or, av_nf, av_tt, av_n1, av_n2, av_t1, av_tp, retQ, retL, resV, RetV, RetOk, SubL, snocE, entD_len, entD_take, entD_hd, entD_ln, entD_ic, entD_d1, entD_d2, entD_d3, entD_d4, entD_d5, entD_d6, entD_d7, ty_39, ty_3, ty_22, ty_4, hd]; try simp (disch := omega) only [av_w, av_t1, av_tp, Int.toNat_natCast]))
          exact Sub.of_eq (congrArg aB (by simp))
    · have hne : (errS l day time != 0) = true := by simpa using he
      repeat' (first
        | (with_reducible refine aw_seq ?_)
        | ((with_reducible refine twoG_intro ?_ ?_) <;> intro hTw <;> first | (exact Bool.noConfusion hTw) | ((try simp only [hTw, Bool.not_true, Bool.not_false, Bool.true_and, Bool.false_and, Bool.and_true, Bool.and_false, Bool.true_or, Bool.false_or, Bool.or_true, Bool.or_false]); (first | (guard_hyp hTw : true = true; clear hTw) | (guard_hyp hTw : false = false; clear hTw) | (revert hTw; intro _))))
        | ((with_reducible refine two_intro ?_ ?_) <;> intro hTw <;> first | (exact Bool.noConfusion hTw) | ((first | (guard_hyp hTw : true = true; clear hTw) | (guard_hyp hTw : false = false; clear hTw) | (revert hTw; intro _))))
        | ((with_reducible refine And.intro ?_ ?_); (focus (first | omega | rfl | decide | grind)))
        | (with_reducible refine aw_block ?_)
        | (with_reducible refine aw_scope ?_)
        | ((first
            | ((with_reducible refine aw_regionA T_ok ?_ ?_); (focus kernel_rfl))
            | ((with_reducible refine aw_drawnA T_ok ?_ ?_ ?_ ?_); (focus kernel_rfl); (focus kernel_rfl); (focus kernel_rfl))
            | ((with_reducible refine callK_intro (rsane_spec) (by with_unfolding_all rfl) ?_ ?_); (focus kernel_rfl))
            | ((with_reducible refine callI_spec (rsane_spec) (by with_unfolding_all rfl) ?_ ?_ ?_); (focus kernel_rfl); (focus kernel_rfl))
            | ((with_reducible refine callK_intro (few_spec l hl) (by with_unfolding_all rfl) ?_ ?_); (focus kernel_rfl))
            | ((with_reducible refine callI_spec (few_spec l hl) (by with_unfolding_all rfl) ?_ ?_ ?_); (focus kernel_rfl); (focus kernel_rfl))
            | ((with_reducible refine callK_intro (gstanding_spec l day time hl hk) (by with_unfolding_all rfl) ?_ ?_); (focus kernel_rfl))
            | ((with_reducible refine callI_spec (gstanding_spec l day time hl hk) (by with_unfolding_all rfl) ?_ ?_ ?_); (focus kernel_rfl); (focus kernel_rfl))
            | (with_reducible refine aw_label ?_)
            | ((with_reducible refine aw_rfM ?_ ?_); (focus kernel_rfl))
            | (with_reducible refine aw_skip ?_)
            | (with_reducible refine aw_exit ?_)
            | ((with_reducible refine aw_condM ?_ ?_); (focus kernel_rfl))
            | (with_reducible refine aw_ret ?_)
          ); simp only [↓rwp.eq_def, ↓sop.eq_def, ↓slotK.eq_def, inV, shT, unT, inQ, rfQ, rfEnd, resOf, pickT, setP, ydA, ydQ, rowW, vD, fillV,  ↓gop.eq_def, ↓hop.eq_def, ↓hopH.eq_def, ↓hwp.eq_def, ↓ldV.eq_def, ↓ldK.eq_def, ↓ixK.eq_def, ↓addOff.eq_def, ↓exK.eq_def, ↓notK.eq_def, ↓pickK.eq_def, ↓iop2.eq_def, ↓binK.eq_def, ↓eqop.eq_def, icells, ↓iop.eq_def, ↓cutK.eq_def, ↓lenK.eq_def, ↓lenM.eq_def, tyInt, ↓lookK.eq_def, ↓mpK.eq_def, keyV, allI, fitK, lkM, upM, dlM, kq, ↓cvK.eq_def, ↓mmK.eq_def, ↓biK.eq_def, ↓stK.eq_def, ↓apK.eq_def, ↓apD.eq_def, ↓apS.eq_def, nxt, put, setT, setB, delB, lkT_n, lkT_c, lkB_n, lkB_c, ev, ofC, inT, ofA, ofRet, dV_n, dV_c, getD_enc, toDs_dV, List.head?_cons, List.length_map, Option.toArray_some, Option.toArray_none, Int.toNat_natCast, slOf, TyK.agg, vcells, splice, pickOps, zOf, strip, stripP, gOf, allP, rowV, toDs, toD, toA, toAs, headOps, tailOps, isT, addN, Op.operands, Call.operands, List.map_cons, List.map_nil, List.drop_zero, List.drop_succ_cons, List.take_succ_cons, List.take_zero, List.length_cons, List.length_nil, List.getElem?_cons_zero, List.getElem?_cons_succ, List.getElem?_toArray, Option.bind_some, Option.map_some, Option.map_none, List.append_nil, List.nil_append, List.cons_append, if_true, if_false, reduceIte, Nat.reduceEqDiff, Nat.reduceAdd, Nat.reduceSub, Int.reduceToNat, Nat.reduceLeDiff, Nat.reduceLT, and_false, and_self, Nat.zero_add, Nat.add_zero, reduceCtorEq, Option.getD_some, Option.getD_none, Option.isSome_some, Option.isSome_none, forall_const, true_and, and_true, true_implies, Bool.true_and, Bool.false_and, Bool.and_true, Bool.and_false, Bool.true_or, Bool.false_or, Bool.or_true, Bool.or_false, beq_self_eq_true, zipM, zcells, Value.cells, Value.oneCell', List.toList_toArray, Array.toList_append, Bool.not_not, List.cons.injEq, Int.reduceEq, eq_self, false_and, Bool.not_true, Bool.not_false, ne_eq, not_false_eq_true, imp_self, implies_true, av_bt, av_bf, av_and, av_or, av_nf, av_tt, av_n1, av_n2, av_t1, av_tp, retQ, retL, resV, RetV, RetOk, SubL, snocE, entD_len, entD_take, entD_hd, entD_ln, entD_ic, entD_d1, entD_d2, entD_d3, entD_d4, entD_d5, entD_d6, entD_d7, ty_39, ty_3, ty_22, ty_4, hf, hne]; try simp (disch := omega) only [av_w, av_t1, av_tp, Int.toNat_natCast]))
      exact Sub.refl _
end Go.Proofs.Ytfmefdeldgmhpaa

namespace Go.Proofs.Ytfmefdeldgmhpaa
set_option linter.unusedSimpArgs false
set_option linter.unusedVariables false
open Go.RowKit
set_option maxRecDepth 100000
set_option maxHeartbeats 4000000
def beats (day time : Int) (y z : Ent) : Bool := oneB y && countsB day time z && (z.kind == y.kind) && (z.a == y.a) && (decide (z.frm > y.frm) || (z.frm == y.frm) && decide (z.no > y.no))
def bestP (day time : Int) (l : List Ent) (y : Ent) (k : Nat) : Bool := countsB day time y && !((l.take k).any (beats day time y))
def standsB (day time : Int) (l : List Ent) (x : Ent) : Bool := countsB day time x && !(l.any (fun y => countsB day time y && replB y x))
theorem bestP_succ {day time : Int} {l : List Ent} {y : Ent} {k : Nat} (h : k < l.length) : bestP day time l y (k + 1) = (bestP day time l y k && !beats day time y (l.getD k default)) := by
  unfold bestP
  rw [any_succ l _ k h, Bool.not_or, Bool.and_assoc]
theorem bestP_all (day time : Int) (l : List Ent) (y : Ent) : bestP day time l y l.length = standsB day time l y := by
  unfold bestP standsB
  rw [List.take_length]
  have : beats day time y = fun z => countsB day time z && replB z y := by
    funext z
    unfold beats replB Ent.key
    rw [Bool.eq_iff_iff]
    simp only [Bool.and_eq_true, Bool.or_eq_true, beq_iff_eq, decide_eq_true_eq, Prod.mk.injEq]
    constructor
    · rintro ⟨⟨⟨⟨h1, h2⟩, h3⟩, h4⟩, h5⟩
      exact ⟨h2, ⟨⟨h3, h4⟩, h1⟩, by omega⟩
    · rintro ⟨h2, ⟨⟨h3, h4⟩, h1⟩, h5⟩
      exact ⟨⟨⟨⟨h1, h2⟩, h3⟩, h4⟩, by omega⟩
  rw [this]
def stAt (day time : Int) (l : List Ent) (k : Nat) : List Ent := (l.take k).filter (standsB day time l)
theorem stAt_all (day time : Int) (l : List Ent) : stAt day time l l.length = standRef day time l := by
  unfold stAt standRef
  rw [List.take_length]
  rfl
theorem stAt_len (day time : Int) (l : List Ent) (k : Nat) : (stAt day time l k).length ≤ k := filter_len l _ k
/-- the next one that stands -/
theorem stAt_next {day time : Int} {l : List Ent} {k : Nat} (hp : l.Pairwise (fun x y => x.no < y.no)) (h : k < l.length) :
    (decide ((stAt day time l k).length < (standRef day time l).length) && decide ((standRef day time l).getD (stAt day time l k).length default = l.getD k default)) = standsB day time l (l.getD k default) := by
  have hs : standRef day time l = stAt day time l k ++ (l.drop k).filter (standsB day time l) := by
    rw [← stAt_all]
    unfold stAt
    rw [List.take_length, ← List.filter_append, List.take_append_drop]
  have hd : l.drop k = l[k] :: l.drop (k + 1) := List.drop_eq_getElem_cons h
  have hg : l.getD k default = l[k] := getD_at h
  rw [hg]
  cases hc : standsB day time l l[k] with
  | true =>
    rw [hs, hd, List.filter_cons, if_pos hc]
    simp [List.getD]
  | false =>
    rw [Bool.and_eq_false_iff, decide_eq_false_iff_not, decide_eq_false_iff_not]
    by_cases hl : (stAt day time l k).length < (standRef day time l).length
    · refine .inr fun e => ?_
      have hm : l[k] ∈ standRef day time l := by rw [← e, List.getD, List.getElem?_eq_getElem hl]; simp
      have : standsB day time l l[k] = true := (List.mem_filter.1 hm).2
      rw [hc] at this
      cases this
    · exact .inl hl
theorem law10_spec (l : List Ent) (day time : Int) (ho : l.length ≤ 140737488351232 ∧ ∀ x ∈ l, OkE x) : Spec Try.prog 10 [aEs l, aI day, aI time] (.r1 (aB true)) := by
  obtain ⟨hl, hk'⟩ := ho
  have hk := okE_kind hk'
  refine spec_of T_ok Try.func10 (by dsimp only [Try.f10]) rfl rfl (by simp) fun w F => ?_
  cases hf : fewL l with
  | false =>
    repeat' (first
      | (with_reducible refine aw_seq ?_)
      | ((with_reducible refine twoG_intro ?_ ?_) <;> intro hTw <;> first | (exact Bool.noConfusion hTw) | ((try simp only [hTw, Bool.not_true, Bool.not_false, Bool.true_and, Bool.false_and, Bool.and_true, Bool.and_false, Bool.true_or, Bool.false_or, Bool.or_true, Bool.or_false]); (first | (guard_hyp hTw : true = true; clear hTw) | (guard_hyp hTw : false = false; clear hTw) | (revert hTw; intro _))))
      | ((with_reducible refine two_intro ?_ ?_) <;> intro hTw <;> first | (exact Bool.noConfusion hTw) | ((first | (guard_hyp hTw : true = true; clear hTw) | (guard_hyp hTw : false = false; clear hTw) | (revert hTw; intro _))))
      | ((with_reducible refine And.intro ?_ ?_); (focus (first | exact eqEnt_ | omega | rfl | decide | grind)))
      | (with_reducible refine aw_block ?_)
      | (with_reducible refine aw_scope ?_)
      | ((first
          | ((with_reducible refine aw_regionA T_ok ?_ ?_); (focus kernel_rfl))
          | ((with_reducible refine aw_drawnA T_ok ?_ ?_ ?_ ?_); (focus kernel_rfl); (focus kernel_rfl); (focus kernel_rfl))
          | ((with_reducible refine callK_intro (rsane_spec) (by with_unfolding_all rfl) ?_ ?_); (focus kernel_rfl))
          | ((with_reducible refine callI_spec (rsane_spec) (by with_unfolding_all rfl) ?_ ?_ ?_); (focus kernel_rfl); (focus kernel_rfl))
          | ((with_reducible refine callK_intro (few_spec l hl) (by with_unfolding_all rfl) ?_ ?_); (focus kernel_rfl))
          | ((with_reducible refine callI_spec (few_spec l hl) (by with_unfolding_all rfl) ?_ ?_ ?_); (focus kernel_rfl); (focus kernel_rfl))
          | (with_reducible refine aw_label ?_)
          | ((with_reducible refine aw_rfM ?_ ?_); (focus kernel_rfl))
          | (with_reducible refine aw_skip ?_)
          | (with_reducible refine aw_exit ?_)
          | ((with_reducible refine aw_condM ?_ ?_); (focus kernel_rfl))
          | (with_reducible refine aw_ret ?_)
        ); simp only [↓rwp.eq_def, ↓sop.eq_def, ↓slotK.eq_def, inV, shT, unT, inQ, rfQ, rfEnd, resOf, pickT, setP, ydA, ydQ, rowW, vD, fillV,  ↓gop.eq_def, ↓hop.eq_def, ↓hopH.eq_def, ↓hwp.eq_def, ↓ldV.eq_def, ↓ldK.eq_def, ↓ixK.eq_def, ↓addOff.eq_def, ↓exK.eq_def, ↓notK.eq_def, ↓pickK.eq_def, ↓iop2.eq_def, ↓binK.eq_def, ↓eqop.eq_def, icells, ↓iop.eq_def, ↓cutK.eq_def, ↓lenK.eq_def, ↓lenM.eq_def, tyInt, ↓lookK.eq_def, ↓mpK.eq_def, keyV, allI, fitK, lkM, upM, dlM, kq, ↓cvK.eq_def, ↓mmK.eq_def, ↓biK.eq_def, ↓stK.eq_def, ↓apK.eq_def, ↓apD.eq_def, ↓apS.eq_def, nxt, put, setT, setB, delB, lkT_n, lkT_c, lkB_n, lkB_c, ev, ofC, inT, ofA, ofRet, dV_n, dV_c, getD_enc, toDs_dV, List.head?_cons, List.length_map, Option.toArray_some, Option.toArray_none, Int.toNat_natCast, slOf, TyK.agg, vcells, splice, pickOps, zOf, strip, stripP, gOf, allP, rowV, toDs, toD, toA, toAs, headOps, tailOps, isT, addN, Op.operands, Call.operands, List.map_cons, List.map_nil, List.drop_zero, List.drop_succ_cons, List.take_succ_cons, List.take_zero, List.length_cons, List.length_nil, List.getElem?_cons_zero, List.getElem?_cons_succ, List.getElem?_toArray, Option.bind_some, Option.map_some, Option.map_none, List.append_nil, List.nil_append, List.cons_append, if_true, if_false, reduceIte, Nat.reduceEqDiff, Nat.reduceAdd, Nat.reduceSub, Int.reduceToNat, Nat.reduceLeDiff, Nat.reduceLT, and_false, and_self, Nat.zero_add, Nat.add_zero, reduceCtorEq, Option.getD_some, Option.getD_none, Option.isSome_some, Option.isSome_none, forall_const, true_and, and_true, true_implies, Bool.true_and, Bool.false_and, Bool.and_true, Bool.and_false, Bool.true_or, Bool.false_or, Bool.or_true, Bool.or_false, beq_self_eq_true, zipM, zcells, Value.cells, Value.oneCell', List.toList_toArray, Array.toList_append, Bool.not_not, List.cons.injEq, Int.reduceEq, eq_self, false_and, Bool.not_true, Bool.not_false, ne_eq, not_false_eq_true, imp_self, implies_true, av_bt, av_bf, av_and, av_or, av_nf, av_tt, av_n1, av_n2, av_t1, av_tp, retQ, retL, resV, RetV, RetOk, SubL, entD_len, entD_take, entD_hd, entD_ln, entD_ic, entD_d1, entD_d2, entD_d3, entD_d4, entD_d5, entD_d6, entD_d7, ty_39, ty_3, ty_22, ty_4, entEq, hf]; try simp (disch := omega) only [av_w, av_t1, av_tp, Int.toNat_natCast]))
    exact Sub.refl _
  | true =>
    by_cases he : errS l day time = 0
    · have hc := (errS_zero he).1
      have h24 : l.length ≤ 1024 := (checkL_ok hc).1
      have hp := (checkL_ok hc).2.1
      have hG := gstanding_spec l day time hl hk
      rw [he, stand_of he] at hG
      obtain ⟨xs, hxs⟩ : ∃ xs, xs = standRef day time l := ⟨_, rfl⟩
      have hxl : xs.length ≤ 1024 := by rw [hxs]; exact Nat.le_trans (List.length_filter_le _ _) h24
      rw [← hxs] at hG
      repeat' (first
        | (with_reducible refine aw_seq ?_)
        | ((with_reducible refine twoG_intro ?_ ?_) <;> intro hTw <;> first | (exact Bool.noConfusion hTw) | ((try simp only [hTw, Bool.not_true, Bool.not_false, Bool.true_and, Bool.false_and, Bool.and_true, Bool.and_false, Bool.true_or, Bool.false_or, Bool.or_true, Bool.or_false]); (first | (guard_hyp hTw : true = true; clear hTw) | (guard_hyp hTw : false = false; clear hTw) | (revert hTw; intro _))))
        | ((with_reducible refine two_intro ?_ ?_) <;> intro hTw <;> first | (exact Bool.noConfusion hTw) | ((first | (guard_hyp hTw : true = true; clear hTw) | (guard_hyp hTw : false = false; clear hTw) | (revert hTw; intro _))))
        | ((with_reducible refine And.intro ?_ ?_); (focus (first | exact eqEnt_ | omega | rfl | decide | grind)))
        | (with_reducible refine aw_block ?_)
        | (with_reducible refine aw_scope ?_)
        | ((first
            | ((with_reducible refine aw_regionA T_ok ?_ ?_); (focus kernel_rfl))
            | ((with_reducible refine aw_drawnA T_ok ?_ ?_ ?_ ?_); (focus kernel_rfl); (focus kernel_rfl); (focus kernel_rfl))
            | ((with_reducible refine callK_intro (rsane_spec) (by with_unfolding_all rfl) ?_ ?_); (focus kernel_rfl))
            | ((with_reducible refine callI_spec (rsane_spec) (by with_unfolding_all rfl) ?_ ?_ ?_); (focus kernel_rfl); (focus kernel_rfl))
            | ((with_reducible refine callK_intro (few_spec l hl) (by with_unfolding_all rfl) ?_ ?_); (focus kernel_rfl))
            | ((with_reducible refine callI_spec (few_spec l hl) (by with_unfolding_all rfl) ?_ ?_ ?_); (focus kernel_rfl); (focus kernel_rfl))
            | ((with_reducible refine callK_intro (hG) (by with_unfolding_all rfl) ?_ ?_); (focus kernel_rfl))
            | ((with_reducible refine callI_spec (hG) (by with_unfolding_all rfl) ?_ ?_ ?_); (focus kernel_rfl); (focus kernel_rfl))
            | (with_reducible refine aw_label ?_)
            | ((with_reducible refine aw_rfM ?_ ?_); (focus kernel_rfl))
            | (with_reducible refine aw_skip ?_)
            | (with_reducible refine aw_exit ?_)
            | ((with_reducible refine aw_condM ?_ ?_); (focus kernel_rfl))
            | (with_reducible refine aw_ret ?_)
          ); simp only [↓rwp.eq_def, ↓sop.eq_def, ↓slotK.eq_def, inV, shT, unT, inQ, rfQ, rfEnd, resOf, pickT, setP, ydA, ydQ, rowW, vD, fillV,  ↓gop.eq_def, ↓hop.eq_def, ↓hopH.eq_def, ↓hwp.eq_def, ↓ldV.eq_def, ↓ldK.eq_def, ↓ixK.eq_def, ↓addOff.eq_def, ↓exK.eq_def, ↓notK.eq_def, ↓pickK.eq_def, ↓iop2.eq_def, ↓binK.eq_def, ↓eqop.eq_def, icells, ↓iop.eq_def, ↓cutK.eq_def, ↓lenK.eq_def, ↓lenM.eq_def, tyInt, ↓lookK.eq_def, ↓mpK.eq_def, keyV, allI, fitK, lkM, upM, dlM, kq, ↓cvK.eq_def, ↓mmK.eq_def, ↓biK.eq_def, ↓stK.eq_def, ↓apK.eq_def, ↓apD.eq_def, ↓apS.eq_def, nxt, put, setT, setB, delB, lkT_n, lkT_c, lkB_n, lkB_c, ev, ofC, inT, ofA, ofRet, dV_n, dV_c, getD_enc, toDs_dV, List.head?_cons, List.length_map, Option.toArray_some, Option.toArray_none, Int.toNat_natCast, slOf, TyK.agg, vcells, splice, pickOps, zOf, strip, stripP, gOf, allP, rowV, toDs, toD, toA, toAs, headOps, tailOps, isT, addN, Op.operands, Call.operands, List.map_cons, List.map_nil, List.drop_zero, List.drop_succ_cons, List.take_succ_cons, List.take_zero, List.length_cons, List.length_nil, List.getElem?_cons_zero, List.getElem?_cons_succ, List.getElem?_toArray, Option.bind_some, Option.map_some, Option.map_none, List.append_nil, List.nil_append, List.cons_append, if_true, if_false, reduceIte, Nat.reduceEqDiff, Nat.reduceAdd, Nat.reduceSub, Int.reduceToNat, Nat.reduceLeDiff, Nat.reduceLT, and_false, and_self, Nat.zero_add, Nat.add_zero, reduceCtorEq, Option.getD_some, Option.getD_none, Option.isSome_some, Option.isSome_none, forall_const, true_and, and_true, true_implies, Bool.true_and, Bool.false_and, Bool.and_true, Bool.and_false, Bool.true_or, Bool.false_or, Bool.or_true, Bool.or_false, beq_self_eq_true, zipM, zcells, Value.cells, Value.oneCell', List.toList_toArray, Array.toList_append, Bool.not_not, List.cons.injEq, Int.reduceEq, eq_self, false_and, Bool.not_true, Bool.not_false, ne_eq, not_false_eq_true, imp_self, implies_true, av_bt, av_bf, av_and, av_or, av_nf, av_tt, av_n1, av_n2, av_t1, av_tp, retQ, retL, resV, RetV, RetOk, SubL, entD_len, entD_take, entD_hd, entD_ln, entD_ic, entD_d1, entD_d2, entD_d3, entD_d4, entD_d5, entD_d6, entD_d7, ty_39, ty_3, ty_22, ty_4, entEq, hf]; try simp (disch := omega) only [av_w, av_t1, av_tp, Int.toNat_natCast]))
      refine aw_loopI (fun k : Nat => ⟨[(0, vEs l), (1, vI day), (2, vI time), (7, vEs xs), (9, vI (stAt day time l k).length), (47, vEs l), (48, vI l.length), (49, vI k)], [], 0⟩) (fun k => k ≤ l.length) (fun k => l.length - k) 0 (Nat.zero_le _) (wk_of [] rfl rfl ?_ ?_) ?_
      · simp only [wkT, wkB, wkB1, subV, subVs, subD, subB, lkN_n, lkN_c, lkT_n, lkT_c, lkB_n, lkB_c, if_true, if_false, reduceIte, Nat.reduceEqDiff, true_and, and_true, and_self, inT, ofA]
        (repeat' (first | exact trivial | rfl | exact rfl | refine And.intro ?_ ?_))
      · simp only [wkT, wkB, wkB1, subV, subVs, subD, subB, lkN_n, lkN_c, lkT_n, lkT_c, lkB_n, lkB_c, if_true, if_false, reduceIte, Nat.reduceEqDiff, true_and, and_true, and_self, inT, ofA]
      intro k hk
      have hsl := stAt_len day time l k
      rcases Nat.lt_or_ge k l.length with hlt | hge
      · have hd := ltd hlt
        have hnx := stAt_next (day := day) (time := time) hp hlt
        rw [← hxs] at hnx
        obtain ⟨y, hy⟩ : ∃ y, y = l.getD k default := ⟨_, rfl⟩
        have hob : (decide (y.kind = 1) || decide (y.kind = 2)) = oneB y := by rw [oneB, Bool.eq_iff_iff]; simp
        rw [← hy] at hnx
        repeat' (first
          | (with_reducible refine aw_seq ?_)
          | ((with_reducible refine twoG_intro ?_ ?_) <;> intro hTw <;> first | (exact Bool.noConfusion hTw) | ((try simp only [hTw, Bool.not_true, Bool.not_false, Bool.true_and, Bool.false_and, Bool.and_true, Bool.and_false, Bool.true_or, Bool.false_or, Bool.or_true, Bool.or_false]); (first | (guard_hyp hTw : true = true; clear hTw) | (guard_hyp hTw : false = false; clear hTw) | (revert hTw; intro _))))
          | ((with_reducible refine two_intro ?_ ?_) <;> intro hTw <;> first | (exact Bool.noConfusion hTw) | ((first | (guard_hyp hTw : true = true; clear hTw) | (guard_hyp hTw : false = false; clear hTw) | (revert hTw; intro _))))
          | ((with_reducible refine And.intro ?_ ?_); (focus (first | exact eqEnt_ | omega | rfl | decide | grind)))
          | (with_reducible refine aw_block ?_)
          | (with_reducible refine aw_scope ?_)
          | ((first
              | ((with_reducible refine aw_regionA T_ok ?_ ?_); (focus kernel_rfl))
              | ((with_reducible refine aw_drawnA T_ok ?_ ?_ ?_ ?_); (focus kernel_rfl); (focus kernel_rfl); (focus kernel_rfl))
              | ((with_reducible refine callK_intro (ecounts_spec _ day time) (by with_unfolding_all rfl) ?_ ?_); (focus kernel_rfl))
              | ((with_reducible refine callI_spec (ecounts_spec _ day time) (by with_unfolding_all rfl) ?_ ?_ ?_); (focus kernel_rfl); (focus kernel_rfl))
              | (with_reducible refine aw_label ?_)
              | ((with_reducible refine aw_rfM ?_ ?_); (focus kernel_rfl))
              | (with_reducible refine aw_skip ?_)
              | (with_reducible refine aw_exit ?_)
              | ((with_reducible refine aw_condM ?_ ?_); (focus kernel_rfl))
              | (with_reducible refine aw_ret ?_)
            ); simp only [↓rwp.eq_def, ↓sop.eq_def, ↓slotK.eq_def, inV, shT, unT, inQ, rfQ, rfEnd, resOf, pickT, setP, ydA, ydQ, rowW, vD, fillV,  ↓gop.eq_def, ↓hop.eq_def, ↓hopH.eq_def, ↓hwp.eq_def, ↓ldV.eq_def, ↓ldK.eq_def, ↓ixK.eq_def, ↓addOff.eq_def, ↓exK.eq_def, ↓notK.eq_def, ↓pickK.eq_def, ↓iop2.eq_def, ↓binK.eq_def, ↓eqop.eq_def, icells, ↓iop.eq_def, ↓cutK.eq_def, ↓lenK.eq_def, ↓lenM.eq_def, tyInt, ↓lookK.eq_def, ↓mpK.eq_def, keyV, allI, fitK, lkM, upM, dlM, kq, ↓cvK.eq_def, ↓mmK.eq_def, ↓biK.eq_def, ↓stK.eq_def, ↓apK.eq_def, ↓apD.eq_def, ↓apS.eq_def, nxt, put, setT, setB, delB, lkT_n, lkT_c, lkB_n, lkB_c, ev, ofC, inT, ofA, ofRet, dV_n, dV_c, getD_enc, toDs_dV, List.head?_cons, List.length_map, Option.toArray_some, Option.toArray_none, Int.toNat_natCast, slOf, TyK.agg, vcells, splice, pickOps, zOf, strip, stripP, gOf, allP, rowV, toDs, toD, toA, toAs, headOps, tailOps, isT, addN, Op.operands, Call.operands, List.map_cons, List.map_nil, List.drop_zero, List.drop_succ_cons, List.take_succ_cons, List.take_zero, List.length_cons, List.length_nil, List.getElem?_cons_zero, List.getElem?_cons_succ, List.getElem?_toArray, Option.bind_some, Option.map_some, Option.map_none, List.append_nil, List.nil_append, List.cons_append, if_true, if_false, reduceIte, Nat.reduceEqDiff, Nat.reduceAdd, Nat.reduceSub, Int.reduceToNat, Nat.reduceLeDiff, Nat.reduceLT, and_false, and_self, Nat.zero_add, Nat.add_zero, reduceCtorEq, Option.getD_some, Option.getD_none, Option.isSome_some, Option.isSome_none, forall_const, true_and, and_true, true_implies, Bool.true_and, Bool.false_and, Bool.and_true, Bool.and_false, Bool.true_or, Bool.false_or, Bool.or_true, Bool.or_false, beq_self_eq_true, zipM, zcells, Value.cells, Value.oneCell', List.toList_toArray, Array.toList_append, Bool.not_not, List.cons.injEq, Int.reduceEq, eq_self, false_and, Bool.not_true, Bool.not_false, ne_eq, not_false_eq_true, imp_self, implies_true, av_bt, av_bf, av_and, av_or, av_nf, av_tt, av_n1, av_n2, av_t1, av_tp, retQ, retL, resV, RetV, RetOk, SubL, entD_len, entD_take, entD_hd, entD_ln, entD_ic, entD_d1, entD_d2, entD_d3, entD_d4, entD_d5, entD_d6, entD_d7, ty_39, ty_3, ty_22, ty_4, entEq, hd, ← hy]; try simp (disch := omega) only [av_w, av_t1, av_tp, Int.toNat_natCast]))
        refine aw_loopI (fun j : Nat => ⟨[(0, vEs l), (1, vI day), (2, vI time), (7, vEs xs), (9, vI (stAt day time l k).length), (47, vEs l), (48, vI l.length), (49, vI k), (11, .ptr 0 0), (12, vB (oneB y)), (13, vB (bestP day time l y j)), (65, vEs l), (66, vI l.length), (67, vI j)], [(0, .cells 39 (dV (entD y)))], 1⟩) (fun j => j ≤ l.length) (fun j => l.length - j) 0 (Nat.zero_le _) (wk_of [(0, some 0)] rfl rfl ?_ ?_) ?_
        · simp only [wkT, wkB, wkB1, subV, subVs, subD, subB, lkN_n, lkN_c, lkT_n, lkT_c, lkB_n, lkB_c, if_true, if_false, reduceIte, Nat.reduceEqDiff, true_and, and_true, and_self, inT, ofA]
          simp [bestP, oneB]
        · simp only [wkT, wkB, wkB1, subV, subVs, subD, subB, lkN_n, lkN_c, lkT_n, lkT_c, lkB_n, lkB_c, if_true, if_false, reduceIte, Nat.reduceEqDiff, true_and, and_true, and_self, inT, ofA]
          exact subVs_ent _ _
        intro j hj
        rcases Nat.lt_or_ge j l.length with hjlt | hjge
        · have hd2 := ltd hjlt
          have hbs := bestP_succ (day := day) (time := time) (y := y) hjlt
          obtain ⟨z, hz⟩ : ∃ z, z = l.getD j default := ⟨_, rfl⟩
          rw [← hz] at hbs
          repeat' (first
            | (with_reducible refine aw_seq ?_)
            | ((with_reducible refine twoG_intro ?_ ?_) <;> intro hTw <;> first | (exact Bool.noConfusion hTw) | ((try simp only [hTw, Bool.not_true, Bool.not_false, Bool.true_and, Bool.false_and, Bool.and_true, Bool.and_false, Bool.true_or, Bool.false_or, Bool.or_true, Bool.or_false]); (first | (guard_hyp hTw : true = true; clear hTw) | (guard_hyp hTw : false = false; clear hTw) | (revert hTw; intro _))))
            | ((with_reducible refine two_intro ?_ ?_) <;> intro hTw <;> first | (exact Bool.noConfusion hTw) | ((first | (guard_hyp hTw : true = true; clear hTw) | (guard_hyp hTw : false = false; clear hTw) | (revert hTw; intro _))))
            | ((with_reducible refine And.intro ?_ ?_); (focus (first | exact eqEnt_ | omega | rfl | decide | grind)))
            | (with_reducible refine aw_block ?_)
            | (with_reducible refine aw_scope ?_)
            | ((first
                | ((with_reducible refine aw_regionA T_ok ?_ ?_); (focus kernel_rfl))
                | ((with_reducible refine aw_drawnA T_ok ?_ ?_ ?_ ?_); (focus kernel_rfl); (focus kernel_rfl); (focus kernel_rfl))
                | ((with_reducible refine callK_intro (ecounts_spec _ day time) (by with_unfolding_all rfl) ?_ ?_); (focus kernel_rfl))
                | ((with_reducible refine callI_spec (ecounts_spec _ day time) (by with_unfolding_all rfl) ?_ ?_ ?_); (focus kernel_rfl); (focus kernel_rfl))
                | (with_reducible refine aw_label ?_)
                | ((with_reducible refine aw_rfM ?_ ?_); (focus kernel_rfl))
                | (with_reducible refine aw_skip ?_)
                | (with_reducible refine aw_exit ?_)
                | ((with_reducible refine aw_condM ?_ ?_); (focus kernel_rfl))
                | (with_reducible refine aw_ret ?_)
              ); simp only [↓rwp.eq_def, ↓sop.eq_def, ↓slotK.eq_def, inV, shT, unT, inQ, rfQ, rfEnd, resOf, pickT, setP, ydA, ydQ, rowW, vD, fillV,  ↓gop.eq_def, ↓hop.eq_def, ↓hopH.eq_def, ↓hwp.eq_def, ↓ldV.eq_def, ↓ldK.eq_def, ↓ixK.eq_def, ↓addOff.eq_def, ↓exK.eq_def, ↓notK.eq_def, ↓pickK.eq_def, ↓iop2.eq_def, ↓binK.eq_def, ↓eqop.eq_def, icells, ↓iop.eq_def, ↓cutK.eq_def, ↓lenK.eq_def, ↓lenM.eq_def, tyInt, ↓lookK.eq_def, ↓mpK.eq_def, keyV, allI, fitK, lkM, upM, dlM, kq, ↓cvK.eq_def, ↓mmK.eq_def, ↓biK.eq_def, ↓stK.eq_def, ↓apK.eq_def, ↓apD.eq_def, ↓apS.eq_def, nxt, put, setT, setB, delB, lkT_n, lkT_c, lkB_n, lkB_c, ev, ofC, inT, ofA, ofRet, dV_n, dV_c, getD_enc, toDs_dV, List.head?_cons, List.length_map, Option.toArray_some, Option.toArray_none, Int.toNat_natCast, slOf, TyK.agg, vcells, splice, pickOps, zOf, strip, stripP, gOf, allP, rowV, toDs, toD, toA, toAs, headOps, tailOps, isT, addN, Op.operands, Call.operands, List.map_cons, List.map_nil, List.drop_zero, List.drop_succ_cons, List.take_succ_cons, List.take_zero, List.length_cons, List.length_nil, List.getElem?_cons_zero, List.getElem?_cons_succ, List.getElem?_toArray, Option.bind_some, Option.map_some, Option.map_none, List.append_nil, List.nil_append, List.cons_append, if_true, if_false, reduceIte, Nat.reduceEqDiff, Nat.reduceAdd, Nat.reduceSub, Int.reduceToNat, Nat.reduceLeDiff, Nat.reduceLT, and_false, and_self, Nat.zero_add, Nat.add_zero, reduceCtorEq, Option.getD_some, Option.getD_none, Option.isSome_some, Option.isSome_none, forall_const, true_and, and_true, true_implies, Bool.true_and, Bool.false_and, Bool.and_true, Bool.and_false, Bool.true_or, Bool.false_or, Bool.or_true, Bool.or_false, beq_self_eq_true, zipM, zcells, Value.cells, Value.oneCell', List.toList_toArray, Array.toList_append, Bool.not_not, List.cons.injEq, Int.reduceEq, eq_self, false_and, Bool.not_true, Bool.not_false, ne_eq, not_false_eq_true, imp_self, implies_true, av_bt, av_bf, av_and, av_or, av_nf, av_tt, av_n1, av_n2, av_t1, av_tp, retQ, retL, resV, RetV, RetOk, SubL, entD_len, entD_take, entD_hd, entD_ln, entD_ic, entD_d1, entD_d2, entD_d3, entD_d4, entD_d5, entD_d6, entD_d7, ty_39, ty_3, ty_22, ty_4, entEq, hd2, ← hz]; try simp (disch := omega) only [av_w, av_t1, av_tp, Int.toNat_natCast]))
          · rename_i h1
            have hb : beats day time y z = true := by rw [← h1]; simp only [beats, Bool.and_assoc]
            rw [hb, Bool.not_true, Bool.and_false] at hbs
            refine ⟨j + 1, by omega, by dsimp only; omega, wk_of [(0, some 0)] rfl rfl ?_ ?_⟩
            · simp only [wkT, wkB, wkB1, subV, subVs, subD, subB, lkN_n, lkN_c, lkT_n, lkT_c, lkB_n, lkB_c, if_true, if_false, reduceIte, Nat.reduceEqDiff, true_and, and_true, and_self, inT, ofA]
              rw [hbs]
              exact ⟨rfl, rfl⟩
            · simp only [wkT, wkB, wkB1, subV, subVs, subD, subB, lkN_n, lkN_c, lkT_n, lkT_c, lkB_n, lkB_c, if_true, if_false, reduceIte, Nat.reduceEqDiff, true_and, and_true, and_self, inT, ofA]
              exact subVs_ent _ _
          · rename_i h1
            have hb : beats day time y z = false := by rw [← h1]; simp only [beats, Bool.and_assoc]
            rw [hb, Bool.not_false, Bool.and_true] at hbs
            refine ⟨j + 1, by omega, by dsimp only; omega, wk_of [(0, some 0)] rfl rfl ?_ ?_⟩
            · simp only [wkT, wkB, wkB1, subV, subVs, subD, subB, lkN_n, lkN_c, lkT_n, lkT_c, lkB_n, lkB_c, if_true, if_false, reduceIte, Nat.reduceEqDiff, true_and, and_true, and_self, inT, ofA]
              rw [hbs]
              exact ⟨rfl, rfl⟩
            · simp only [wkT, wkB, wkB1, subV, subVs, subD, subB, lkN_n, lkN_c, lkT_n, lkT_c, lkB_n, lkB_c, if_true, if_false, reduceIte, Nat.reduceEqDiff, true_and, and_true, and_self, inT, ofA]
              exact subVs_ent _ _
        · obtain rfl : j = l.length := by omega
          have hd2 := ged (Nat.le_refl l.length)
          rw [bestP_all]
          have hsn := filter_snoc l (standsB day time l) k hlt
          rw [← hy] at hsn
          cases hsb : standsB day time l y
          all_goals rw [hsb] at hnx hsn
          all_goals simp only [if_true, Bool.false_eq_true, if_false, List.append_nil] at hsn
          all_goals rcases Nat.lt_or_ge (stAt day time l k).length xs.length with hl1 | hl1
          · rw [decide_eq_true hl1, Bool.true_and] at hnx
            have hst : (stAt day time l (k + 1)).length = (stAt day time l k).length := by unfold stAt; rw [hsn]
            repeat' (first
              | (with_reducible refine aw_seq ?_)
              | ((with_reducible refine twoG_intro ?_ ?_) <;> intro hTw <;> first | (exact Bool.noConfusion hTw) | ((try simp only [hTw, Bool.not_true, Bool.not_false, Bool.true_and, Bool.false_and, Bool.and_true, Bool.and_false, Bool.true_or, Bool.false_or, Bool.or_true, Bool.or_false]); (first | (guard_hyp hTw : true = true; clear hTw) | (guard_hyp hTw : false = false; clear hTw) | (revert hTw; intro _))))
              | ((with_reducible refine two_intro ?_ ?_) <;> intro hTw <;> first | (exact Bool.noConfusion hTw) | ((first | (guard_hyp hTw : true = true; clear hTw) | (guard_hyp hTw : false = false; clear hTw) | (revert hTw; intro _))))
              | ((with_reducible refine And.intro ?_ ?_); (focus (first | exact eqEnt_ | omega | rfl | decide | grind)))
              | (with_reducible refine aw_block ?_)
              | (with_reducible refine aw_scope ?_)
              | ((first
                  | ((with_reducible refine aw_regionA T_ok ?_ ?_); (focus kernel_rfl))
                  | ((with_reducible refine aw_drawnA T_ok ?_ ?_ ?_ ?_); (focus kernel_rfl); (focus kernel_rfl); (focus kernel_rfl))
                  | (with_reducible refine aw_label ?_)
                  | ((with_reducible refine aw_rfM ?_ ?_); (focus kernel_rfl))
                  | (with_reducible refine aw_skip ?_)
                  | (with_reducible refine aw_exit ?_)
                  | ((with_reducible refine aw_condM ?_ ?_); (focus kernel_rfl))
                  | (with_reducible refine aw_ret ?_)
                ); simp only [↓rwp.eq_def, ↓sop.eq_def, ↓slotK.eq_def, inV, shT, unT, inQ, rfQ, rfEnd, resOf, pickT, setP, ydA, ydQ, rowW, vD, fillV,  ↓gop.eq_def, ↓hop.eq_def, ↓hopH.eq_def, ↓hwp.eq_def, ↓ldV.eq_def, ↓ldK.eq_def, ↓ixK.eq_def, ↓addOff.eq_def, ↓exK.eq_def, ↓notK.eq_def, ↓pickK.eq_def, ↓iop2.eq_def, ↓binK.eq_def, ↓eqop.eq_def, icells, ↓iop.eq_def, ↓cutK.eq_def, ↓lenK.eq_def, ↓lenM.eq_def, tyInt, ↓lookK.eq_def, ↓mpK.eq_def, keyV, allI, fitK, lkM, upM, dlM, kq, ↓cvK.eq_def, ↓mmK.eq_def, ↓biK.eq_def, ↓stK.eq_def, ↓apK.eq_def, ↓apD.eq_def, ↓apS.eq_def, nxt, put, setT, setB, delB, lkT_n, lkT_c, lkB_n, lkB_c, ev, ofC, inT, ofA, ofRet, dV_n, dV_c, getD_enc, toDs_dV, List.head?_cons, List.length_map, Option.toArray_some, Option.toArray_none, Int.toNat_natCast, slOf, TyK.agg, vcells, splice, pickOps, zOf, strip, stripP, gOf, allP, rowV, toDs, toD, toA, toAs, headOps, tailOps, isT, addN, Op.operands, Call.operands, List.map_cons, List.map_nil, List.drop_zero, List.drop_succ_cons, List.take_succ_cons, List.take_zero, List.length_cons, List.length_nil, List.getElem?_cons_zero, List.getElem?_cons_succ, List.getElem?_toArray, Option.bind_some, Option.map_some, Option.map_none, List.append_nil, List.nil_append, List.cons_append, if_true, if_false, reduceIte, Nat.reduceEqDiff, Nat.reduceAdd, Nat.reduceSub, Int.reduceToNat, Nat.reduceLeDiff, Nat.reduceLT, and_false, and_self, Nat.zero_add, Nat.add_zero, reduceCtorEq, Option.getD_some, Option.getD_none, Option.isSome_some, Option.isSome_none, forall_const, true_and, and_true, true_implies, Bool.true_and, Bool.false_and, Bool.and_true, Bool.and_false, Bool.true_or, Bool.false_or, Bool.or_true, Bool.or_false, beq_self_eq_true, zipM, zcells, Value.cells, Value.oneCell', List.toList_toArray, Array.toList_append, Bool.not_not, List.cons.injEq, Int.reduceEq, eq_self, false_and, Bool.not_true, Bool.not_false, ne_eq, not_false_eq_true, imp_self, implies_true, av_bt, av_bf, av_and, av_or, av_nf, av_tt, av_n1, av_n2, av_t1, av_tp, retQ, retL, resV, RetV, RetOk, SubL, entD_len, entD_take, entD_hd, entD_ln, entD_ic, entD_d1, entD_d2, entD_d3, entD_d4, entD_d5, entD_d6, entD_d7, ty_39, ty_3, ty_22, ty_4, entEq, hd2, ltd hl1, hnx]; try simp (disch := omega) only [av_w, av_t1, av_tp, Int.toNat_natCast]))
            refine ⟨k + 1, by omega, by dsimp only; omega, wk_of [] rfl rfl ?_ ?_⟩
            · simp only [wkT, wkB, wkB1, subV, subVs, subD, subB, lkN_n, lkN_c, lkT_n, lkT_c, lkB_n, lkB_c, if_true, if_false, reduceIte, Nat.reduceEqDiff, true_and, and_true, and_self, inT, ofA]
              rw [hst]
              (repeat' (first | exact trivial | rfl | exact rfl | refine And.intro ?_ ?_))
            · simp only [wkT, wkB, wkB1, subV, subVs, subD, subB, lkN_n, lkN_c, lkT_n, lkT_c, lkB_n, lkB_c, if_true, if_false, reduceIte, Nat.reduceEqDiff, true_and, and_true, and_self, inT, ofA]
          · have hst : (stAt day time l (k + 1)).length = (stAt day time l k).length := by unfold stAt; rw [hsn]
            repeat' (first
              | (with_reducible refine aw_seq ?_)
              | ((with_reducible refine twoG_intro ?_ ?_) <;> intro hTw <;> first | (exact Bool.noConfusion hTw) | ((try simp only [hTw, Bool.not_true, Bool.not_false, Bool.true_and, Bool.false_and, Bool.and_true, Bool.and_false, Bool.true_or, Bool.false_or, Bool.or_true, Bool.or_false]); (first | (guard_hyp hTw : true = true; clear hTw) | (guard_hyp hTw : false = false; clear hTw) | (revert hTw; intro _))))
              | ((with_reducible refine two_intro ?_ ?_) <;> intro hTw <;> first | (exact Bool.noConfusion hTw) | ((first | (guard_hyp hTw : true = true; clear hTw) | (guard_hyp hTw : false = false; clear hTw) | (revert hTw; intro _))))
              | ((with_reducible refine And.intro ?_ ?_); (focus (first | exact eqEnt_ | omega | rfl | decide | grind)))
              | (with_reducible refine aw_block ?_)
              | (with_reducible refine aw_scope ?_)
              | ((first
                  | ((with_reducible refine aw_regionA T_ok ?_ ?_); (focus kernel_rfl))
                  | ((with_reducible refine aw_drawnA T_ok ?_ ?_ ?_ ?_); (focus kernel_rfl); (focus kernel_rfl); (focus kernel_rfl))
                  | (with_reducible refine aw_label ?_)
                  | ((with_reducible refine aw_rfM ?_ ?_); (focus kernel_rfl))
                  | (with_reducible refine aw_skip ?_)
                  | (with_reducible refine aw_exit ?_)
                  | ((with_reducible refine aw_condM ?_ ?_); (focus kernel_rfl))
                  | (with_reducible refine aw_ret ?_)
                ); simp only [↓rwp.eq_def, ↓sop.eq_def, ↓slotK.eq_def, inV, shT, unT, inQ, rfQ, rfEnd, resOf, pickT, setP, ydA, ydQ, rowW, vD, fillV,  ↓gop.eq_def, ↓hop.eq_def, ↓hopH.eq_def, ↓hwp.eq_def, ↓ldV.eq_def, ↓ldK.eq_def, ↓ixK.eq_def, ↓addOff.eq_def, ↓exK.eq_def, ↓notK.eq_def, ↓pickK.eq_def, ↓iop2.eq_def, ↓binK.eq_def, ↓eqop.eq_def, icells, ↓iop.eq_def, ↓cutK.eq_def, ↓lenK.eq_def, ↓lenM.eq_def, tyInt, ↓lookK.eq_def, ↓mpK.eq_def, keyV, allI, fitK, lkM, upM, dlM, kq, ↓cvK.eq_def, ↓mmK.eq_def, ↓biK.eq_def, ↓stK.eq_def, ↓apK.eq_def, ↓apD.eq_def, ↓apS.eq_def, nxt, put, setT, setB, delB, lkT_n, lkT_c, lkB_n, lkB_c, ev, ofC, inT, ofA, ofRet, dV_n, dV_c, getD_enc, toDs_dV, List.head?_cons, List.length_map, Option.toArray_some, Option.toArray_none, Int.toNat_natCast, slOf, TyK.agg, vcells, splice, pickOps, zOf, strip, stripP, gOf, allP, rowV, toDs, toD, toA, toAs, headOps, tailOps, isT, addN, Op.operands, Call.operands, List.map_cons, List.map_nil, List.drop_zero, List.drop_succ_cons, List.take_succ_cons, List.take_zero, List.length_cons, List.length_nil, List.getElem?_cons_zero, List.getElem?_cons_succ, List.getElem?_toArray, Option.bind_some, Option.map_some, Option.map_none, List.append_nil, List.nil_append, List.cons_append, if_true, if_false, reduceIte, Nat.reduceEqDiff, Nat.reduceAdd, Nat.reduceSub, Int.reduceToNat, Nat.reduceLeDiff, Nat.reduceLT, and_false, and_self, Nat.zero_add, Nat.add_zero, reduceCtorEq, Option.getD_some, Option.getD_none, Option.isSome_some, Option.isSome_none, forall_const, true_and, and_true, true_implies, Bool.true_and, Bool.false_and, Bool.and_true, Bool.and_false, Bool.true_or, Bool.false_or, Bool.or_true, Bool.or_false, beq_self_eq_true, zipM, zcells, Value.cells, Value.oneCell', List.toList_toArray, Array.toList_append, Bool.not_not, List.cons.injEq, Int.reduceEq, eq_self, false_and, Bool.not_true, Bool.not_false, ne_eq, not_false_eq_true, imp_self, implies_true, av_bt, av_bf, av_and, av_or, av_nf, av_tt, av_n1, av_n2, av_t1, av_tp, retQ, retL, resV, RetV, RetOk, SubL, entD_len, entD_take, entD_hd, entD_ln, entD_ic, entD_d1, entD_d2, entD_d3, entD_d4, entD_d5, entD_d6, entD_d7, ty_39, ty_3, ty_22, ty_4, entEq, hd2, ged hl1]; try simp (disch := omega) only [av_w, av_t1, av_tp, Int.toNat_natCast]))
            refine ⟨k + 1, by omega, by dsimp only; omega, wk_of [] rfl rfl ?_ ?_⟩
            · simp only [wkT, wkB, wkB1, subV, subVs, subD, subB, lkN_n, lkN_c, lkT_n, lkT_c, lkB_n, lkB_c, if_true, if_false, reduceIte, Nat.reduceEqDiff, true_and, and_true, and_self, inT, ofA]
              rw [hst]
              (repeat' (first | exact trivial | rfl | exact rfl | refine And.intro ?_ ?_))
            · simp only [wkT, wkB, wkB1, subV, subVs, subD, subB, lkN_n, lkN_c, lkT_n, lkT_c, lkB_n, lkB_c, if_true, if_false, reduceIte, Nat.reduceEqDiff, true_and, and_true, and_self, inT, ofA]
          · rw [decide_eq_true hl1, Bool.true_and] at hnx
            have hst : (stAt day time l (k + 1)).length = (stAt day time l k).length + 1 := by unfold stAt; rw [hsn]; simp
            repeat' (first
              | (with_reducible refine aw_seq ?_)
              | ((with_reducible refine twoG_intro ?_ ?_) <;> intro hTw <;> first | (exact Bool.noConfusion hTw) | ((try simp only [hTw, Bool.not_true, Bool.not_false, Bool.true_and, Bool.false_and, Bool.and_true, Bool.and_false, Bool.true_or, Bool.false_or, Bool.or_true, Bool.or_false]); (first | (guard_hyp hTw : true = true; clear hTw) | (guard_hyp hTw : false = false; clear hTw) | (revert hTw; intro _))))
              | ((with_reducible refine two_intro ?_ ?_) <;> intro hTw <;> first | (exact Bool.noConfusion hTw) | ((first | (guard_hyp hTw : true = true; clear hTw) | (guard_hyp hTw : false = false; clear hTw) | (revert hTw; intro _))))
              | ((with_reducible refine And.intro ?_ ?_); (focus (first | exact eqEnt_ | omega | rfl | decide | grind)))
              | (with_reducible refine aw_block ?_)
              | (with_reducible refine aw_scope ?_)
              | ((first
                  | ((with_reducible refine aw_regionA T_ok ?_ ?_); (focus kernel_rfl))
                  | ((with_reducible refine aw_drawnA T_ok ?_ ?_ ?_ ?_); (focus kernel_rfl); (focus kernel_rfl); (focus kernel_rfl))
                  | (with_reducible refine aw_label ?_)
                  | ((with_reducible refine aw_rfM ?_ ?_); (focus kernel_rfl))
                  | (with_reducible refine aw_skip ?_)
                  | (with_reducible refine aw_exit ?_)
                  | ((with_reducible refine aw_condM ?_ ?_); (focus kernel_rfl))
                  | (with_reducible refine aw_ret ?_)
                ); simp only [↓rwp.eq_def, ↓sop.eq_def, ↓slotK.eq_def, inV, shT, unT, inQ, rfQ, rfEnd, resOf, pickT, setP, ydA, ydQ, rowW, vD, fillV,  ↓gop.eq_def, ↓hop.eq_def, ↓hopH.eq_def, ↓hwp.eq_def, ↓ldV.eq_def, ↓ldK.eq_def, ↓ixK.eq_def, ↓addOff.eq_def, ↓exK.eq_def, ↓notK.eq_def, ↓pickK.eq_def, ↓iop2.eq_def, ↓binK.eq_def, ↓eqop.eq_def, icells, ↓iop.eq_def, ↓cutK.eq_def, ↓lenK.eq_def, ↓lenM.eq_def, tyInt, ↓lookK.eq_def, ↓mpK.eq_def, keyV, allI, fitK, lkM, upM, dlM, kq, ↓cvK.eq_def, ↓mmK.eq_def, ↓biK.eq_def, ↓stK.eq_def, ↓apK.eq_def, ↓apD.eq_def, ↓apS.eq_def, nxt, put, setT, setB, delB, lkT_n, lkT_c, lkB_n, lkB_c, ev, ofC, inT, ofA, ofRet, dV_n, dV_c, getD_enc, toDs_dV, List.head?_cons, List.length_map, Option.toArray_some, Option.toArray_none, Int.toNat_natCast, slOf, TyK.agg, vcells, splice, pickOps, zOf, strip, stripP, gOf, allP, rowV, toDs, toD, toA, toAs, headOps, tailOps, isT, addN, Op.operands, Call.operands, List.map_cons, List.map_nil, List.drop_zero, List.drop_succ_cons, List.take_succ_cons, List.take_zero, List.length_cons, List.length_nil, List.getElem?_cons_zero, List.getElem?_cons_succ, List.getElem?_toArray, Option.bind_some, Option.map_some, Option.map_none, List.append_nil, List.nil_append, List.cons_append, if_true, if_false, reduceIte, Nat.reduceEqDiff, Nat.reduceAdd, Nat.reduceSub, Int.reduceToNat, Nat.reduceLeDiff, Nat.reduceLT, and_false, and_self, Nat.zero_add, Nat.add_zero, reduceCtorEq, Option.getD_some, Option.getD_none, Option.isSome_some, Option.isSome_none, forall_const, true_and, and_true, true_implies, Bool.true_and, Bool.false_and, Bool.and_true, Bool.and_false, Bool.true_or, Bool.false_or, Bool.or_true, Bool.or_false, beq_self_eq_true, zipM, zcells, Value.cells, Value.oneCell', List.toList_toArray, Array.toList_append, Bool.not_not, List.cons.injEq, Int.reduceEq, eq_self, false_and, Bool.not_true, Bool.not_false, ne_eq, not_false_eq_true, imp_self, implies_true, av_bt, av_bf, av_and, av_or, av_nf, av_tt, av_n1, av_n2, av_t1, av_tp, retQ, retL, resV, RetV, RetOk, SubL, entD_len, entD_take, entD_hd, entD_ln, entD_ic, entD_d1, entD_d2, entD_d3, entD_d4, entD_d5, entD_d6, entD_d7, ty_39, ty_3, ty_22, ty_4, entEq, hd2, ltd hl1, hnx]; try simp (disch := omega) only [av_w, av_t1, av_tp, Int.toNat_natCast]))
            refine ⟨k + 1, by omega, by dsimp only; omega, wk_of [] rfl rfl ?_ ?_⟩
            · simp only [wkT, wkB, wkB1, subV, subVs, subD, subB, lkN_n, lkN_c, lkT_n, lkT_c, lkB_n, lkB_c, if_true, if_false, reduceIte, Nat.reduceEqDiff, true_and, and_true, and_self, inT, ofA]
              rw [hst]
              (repeat' (first | exact trivial | rfl | exact rfl | refine And.intro ?_ ?_))
            · simp only [wkT, wkB, wkB1, subV, subVs, subD, subB, lkN_n, lkN_c, lkT_n, lkT_c, lkB_n, lkB_c, if_true, if_false, reduceIte, Nat.reduceEqDiff, true_and, and_true, and_self, inT, ofA]
          · rw [decide_eq_false (by omega), Bool.false_and] at hnx
            cases hnx
      · obtain rfl : k = l.length := by omega
        have hd := ged (Nat.le_refl l.length)
        repeat' (first
          | (with_reducible refine aw_seq ?_)
          | ((with_reducible refine twoG_intro ?_ ?_) <;> intro hTw <;> first | (exact Bool.noConfusion hTw) | ((try simp only [hTw, Bool.not_true, Bool.not_false, Bool.true_and, Bool.false_and, Bool.and_true, Bool.and_false, Bool.true_or, Bool.false_or, Bool.or_true, Bool.or_false]); (first | (guard_hyp hTw : true = true; clear hTw) | (guard_hyp hTw : false = false; clear hTw) | (revert hTw; intro _))))
          | ((with_reducible refine two_intro ?_ ?_) <;> intro hTw <;> first | (exact Bool.noConfusion hTw) | ((first | (guard_hyp hTw : true = true; clear hTw) | (guard_hyp hTw : false = false; clear hTw) | (revert hTw; intro _))))
          | ((with_reducible refine And.intro ?_ ?_); (focus (first | exact eqEnt_ | omega | rfl | decide | grind)))
          | (with_reducible refine aw_block ?_)
          | (with_reducible refine aw_scope ?_)
          | ((first
              | ((with_reducible refine aw_regionA T_ok ?_ ?_); (focus kernel_rfl))
              | ((with_reducible refine aw_drawnA T_ok ?_ ?_ ?_ ?_); (focus kernel_rfl); (focus kernel_rfl); (focus kernel_rfl))
              | (with_reducible refine aw_label ?_)
              | ((with_reducible refine aw_rfM ?_ ?_); (focus kernel_rfl))
              | (with_reducible refine aw_skip ?_)
              | (with_reducible refine aw_exit ?_)
              | ((with_reducible refine aw_condM ?_ ?_); (focus kernel_rfl))
              | (with_reducible refine aw_ret ?_)
            ); simp only [↓rwp.eq_def, ↓sop.eq_def, ↓slotK.eq_def, inV, shT, unT, inQ, rfQ, rfEnd, resOf, pickT, setP, ydA, ydQ, rowW, vD, fillV,  ↓gop.eq_def, ↓hop.eq_def, ↓hopH.eq_def, ↓hwp.eq_def, ↓ldV.eq_def, ↓ldK.eq_def, ↓ixK.eq_def, ↓addOff.eq_def, ↓exK.eq_def, ↓notK.eq_def, ↓pickK.eq_def, ↓iop2.eq_def, ↓binK.eq_def, ↓eqop.eq_def, icells, ↓iop.eq_def, ↓cutK.eq_def, ↓lenK.eq_def, ↓lenM.eq_def, tyInt, ↓lookK.eq_def, ↓mpK.eq_def, keyV, allI, fitK, lkM, upM, dlM, kq, ↓cvK.eq_def, ↓mmK.eq_def, ↓biK.eq_def, ↓stK.eq_def, ↓apK.eq_def, ↓apD.eq_def, ↓apS.eq_def, nxt, put, setT, setB, delB, lkT_n, lkT_c, lkB_n, lkB_c, ev, ofC, inT, ofA, ofRet, dV_n, dV_c, getD_enc, toDs_dV, List.head?_cons, List.length_map, Option.toArray_some, Option.toArray_none, Int.toNat_natCast, slOf, TyK.agg, vcells, splice, pickOps, zOf, strip, stripP, gOf, allP, rowV, toDs, toD, toA, toAs, headOps, tailOps, isT, addN, Op.operands, Call.operands, List.map_cons, List.map_nil, List.drop_zero, List.drop_succ_cons, List.take_succ_cons, List.take_zero, List.length_cons, List.length_nil, List.getElem?_cons_zero, List.getElem?_cons_succ, List.getElem?_toArray, Option.bind_some, Option.map_some, Option.map_none, List.append_nil, List.nil_append, List.cons_append, if_true, if_false, reduceIte, Nat.reduceEqDiff, Nat.reduceAdd, Nat.reduceSub, Int.reduceToNat, Nat.reduceLeDiff, Nat.reduceLT, and_false, and_self, Nat.zero_add, Nat.add_zero, reduceCtorEq, Option.getD_some, Option.getD_none, Option.isSome_some, Option.isSome_none, forall_const, true_and, and_true, true_implies, Bool.true_and, Bool.false_and, Bool.and_true, Bool.and_false, Bool.true_or, Bool.false_or, Bool.or_true, Bool.or_false, beq_self_eq_true, zipM, zcells, Value.cells, Value.oneCell', List.toList_toArray, Array.toList_append, Bool.not_not, List.cons.injEq, Int.reduceEq, eq_self, false_and, Bool.not_true, Bool.not_false, ne_eq, not_false_eq_true, imp_self, implies_true, av_bt, av_bf, av_and, av_or, av_nf, av_tt, av_n1, av_n2, av_t1, av_tp, retQ, retL, resV, RetV, RetOk, SubL, entD_len, entD_take, entD_hd, entD_ln, entD_ic, entD_d1, entD_d2, entD_d3, entD_d4, entD_d5, entD_d6, entD_d7, ty_39, ty_3, ty_22, ty_4, entEq, hd]; try simp (disch := omega) only [av_w, av_t1, av_tp, Int.toNat_natCast]))
        refine aw_loopI (fun j : Nat => ⟨[(7, vEs xs), (9, vI xs.length), (132, vEs xs), (133, vI xs.length), (134, vI j)], [], 0⟩) (fun j => j ≤ xs.length) (fun j => xs.length - j) 0 (Nat.zero_le _) (wk_of [] rfl rfl ?_ ?_) ?_
        · simp only [wkT, wkB, wkB1, subV, subVs, subD, subB, lkN_n, lkN_c, lkT_n, lkT_c, lkB_n, lkB_c, if_true, if_false, reduceIte, Nat.reduceEqDiff, true_and, and_true, and_self, inT, ofA]
          rw [stAt_all, hxs]
          (repeat' (first | exact trivial | rfl | exact rfl | refine And.intro ?_ ?_))
        · simp only [wkT, wkB, wkB1, subV, subVs, subD, subB, lkN_n, lkN_c, lkT_n, lkT_c, lkB_n, lkB_c, if_true, if_false, reduceIte, Nat.reduceEqDiff, true_and, and_true, and_self, inT, ofA]
        intro j hj
        rcases Nat.lt_or_ge j xs.length with hjlt | hjge
        · have hd2 := ltd hjlt
          obtain ⟨y, hy⟩ : ∃ y, y = xs.getD j default := ⟨_, rfl⟩
          obtain ⟨zs, hzs⟩ : ∃ zs, zs = xs.take j := ⟨_, rfl⟩
          have htk : List.take j (List.map entD xs) = zs.map entD := by rw [hzs, List.map_take]
          have hzl : zs.length = j := by rw [hzs, List.length_take]; omega
          repeat' (first
            | (with_reducible refine aw_seq ?_)
            | ((with_reducible refine twoG_intro ?_ ?_) <;> intro hTw <;> first | (exact Bool.noConfusion hTw) | ((try simp only [hTw, Bool.not_true, Bool.not_false, Bool.true_and, Bool.false_and, Bool.and_true, Bool.and_false, Bool.true_or, Bool.false_or, Bool.or_true, Bool.or_false]); (first | (guard_hyp hTw : true = true; clear hTw) | (guard_hyp hTw : false = false; clear hTw) | (revert hTw; intro _))))
            | ((with_reducible refine two_intro ?_ ?_) <;> intro hTw <;> first | (exact Bool.noConfusion hTw) | ((first | (guard_hyp hTw : true = true; clear hTw) | (guard_hyp hTw : false = false; clear hTw) | (revert hTw; intro _))))
            | ((with_reducible refine And.intro ?_ ?_); (focus (first | exact eqEnt_ | omega | rfl | decide | grind)))
            | (with_reducible refine aw_block ?_)
            | (with_reducible refine aw_scope ?_)
            | ((first
                | ((with_reducible refine aw_regionA T_ok ?_ ?_); (focus kernel_rfl))
                | ((with_reducible refine aw_drawnA T_ok ?_ ?_ ?_ ?_); (focus kernel_rfl); (focus kernel_rfl); (focus kernel_rfl))
                | (with_reducible refine aw_label ?_)
                | ((with_reducible refine aw_rfM ?_ ?_); (focus kernel_rfl))
                | (with_reducible refine aw_skip ?_)
                | (with_reducible refine aw_exit ?_)
                | ((with_reducible refine aw_condM ?_ ?_); (focus kernel_rfl))
                | (with_reducible refine aw_ret ?_)
              ); simp only [↓rwp.eq_def, ↓sop.eq_def, ↓slotK.eq_def, inV, shT, unT, inQ, rfQ, rfEnd, resOf, pickT, setP, ydA, ydQ, rowW, vD, fillV,  ↓gop.eq_def, ↓hop.eq_def, ↓hopH.eq_def, ↓hwp.eq_def, ↓ldV.eq_def, ↓ldK.eq_def, ↓ixK.eq_def, ↓addOff.eq_def, ↓exK.eq_def, ↓notK.eq_def, ↓pickK.eq_def, ↓iop2.eq_def, ↓binK.eq_def, ↓eqop.eq_def, icells, ↓iop.eq_def, ↓cutK.eq_def, ↓lenK.eq_def, ↓lenM.eq_def, tyInt, ↓lookK.eq_def, ↓mpK.eq_def, keyV, allI, fitK, lkM, upM, dlM, kq, ↓cvK.eq_def, ↓mmK.eq_def, ↓biK.eq_def, ↓stK.eq_def, ↓apK.eq_def, ↓apD.eq_def, ↓apS.eq_def, nxt, put, setT, setB, delB, lkT_n, lkT_c, lkB_n, lkB_c, ev, ofC, inT, ofA, ofRet, dV_n, dV_c, getD_enc, toDs_dV, List.head?_cons, List.length_map, Option.toArray_some, Option.toArray_none, Int.toNat_natCast, slOf, TyK.agg, vcells, splice, pickOps, zOf, strip, stripP, gOf, allP, rowV, toDs, toD, toA, toAs, headOps, tailOps, isT, addN, Op.operands, Call.operands, List.map_cons, List.map_nil, List.drop_zero, List.drop_succ_cons, List.take_succ_cons, List.take_zero, List.length_cons, List.length_nil, List.getElem?_cons_zero, List.getElem?_cons_succ, List.getElem?_toArray, Option.bind_some, Option.map_some, Option.map_none, List.append_nil, List.nil_append, List.cons_append, if_true, if_false, reduceIte, Nat.reduceEqDiff, Nat.reduceAdd, Nat.reduceSub, Int.reduceToNat, Nat.reduceLeDiff, Nat.reduceLT, and_false, and_self, Nat.zero_add, Nat.add_zero, reduceCtorEq, Option.getD_some, Option.getD_none, Option.isSome_some, Option.isSome_none, forall_const, true_and, and_true, true_implies, Bool.true_and, Bool.false_and, Bool.and_true, Bool.and_false, Bool.true_or, Bool.false_or, Bool.or_true, Bool.or_false, beq_self_eq_true, zipM, zcells, Value.cells, Value.oneCell', List.toList_toArray, Array.toList_append, Bool.not_not, List.cons.injEq, Int.reduceEq, eq_self, false_and, Bool.not_true, Bool.not_false, ne_eq, not_false_eq_true, imp_self, implies_true, av_bt, av_bf, av_and, av_or, av_nf, av_tt, av_n1, av_n2, av_t1, av_tp, retQ, retL, resV, RetV, RetOk, SubL, entD_len, entD_take, entD_hd, entD_ln, entD_ic, entD_d1, entD_d2, entD_d3, entD_d4, entD_d5, entD_d6, entD_d7, ty_39, ty_3, ty_22, ty_4, entEq, hd2, ← hy, htk]; try simp (disch := omega) only [av_w, av_t1, av_tp, Int.toNat_natCast]))
          refine aw_loopI (fun i : Nat => ⟨[(7, vEs xs), (9, vI xs.length), (132, vEs xs), (133, vI xs.length), (134, vI j), (16, vI j), (17, .ptr 0 0), (141, vEs zs), (142, vI zs.length), (143, vI i)], [(0, .cells 39 (dV (entD y)))], 1⟩) (fun i => i ≤ zs.length) (fun i => zs.length - i) 0 (Nat.zero_le _) (wk_of [(0, some 0)] rfl rfl ?_ ?_) ?_
          · simp only [wkT, wkB, wkB1, subV, subVs, subD, subB, lkN_n, lkN_c, lkT_n, lkT_c, lkB_n, lkB_c, if_true, if_false, reduceIte, Nat.reduceEqDiff, true_and, and_true, and_self, inT, ofA]
            (repeat' (first | exact trivial | rfl | exact rfl | refine And.intro ?_ ?_))
          · simp only [wkT, wkB, wkB1, subV, subVs, subD, subB, lkN_n, lkN_c, lkT_n, lkT_c, lkB_n, lkB_c, if_true, if_false, reduceIte, Nat.reduceEqDiff, true_and, and_true, and_self, inT, ofA]
            exact subVs_ent _ _
          intro i hi
          rcases Nat.lt_or_ge i zs.length with hilt | hige
          · have hd3 := ltd hilt
            obtain ⟨z, hz⟩ : ∃ z, z = zs.getD i default := ⟨_, rfl⟩
            have hno : ¬ (y.kind = z.kind ∧ y.a = z.a ∧ (y.kind = 1 ∨ y.kind = 2)) := by
              rintro ⟨h1, h2, h3⟩
              have hyx : y = xs[j] := by rw [hy, getD_at hjlt]
              have hzx : z = xs[i] := by
                rw [hz, getD_at hilt]
                simp [hzs]
              have hu := standRef_uniq hp day time
              rw [← hxs] at hu
              have heq := hu y (by rw [hyx]; simp) z (by rw [hzx]; simp) h3 h1 h2
              have hpx : xs.Pairwise (fun x y => x.no < y.no) := by rw [hxs]; exact hp.sublist List.filter_sublist
              have := List.pairwise_iff_getElem.1 hpx i j (by omega) hjlt (by omega)
              rw [← hyx, ← hzx, heq] at this
              omega
            repeat' (first
              | (with_reducible refine aw_seq ?_)
              | ((with_reducible refine twoG_intro ?_ ?_) <;> intro hTw <;> first | (exact Bool.noConfusion hTw) | ((try simp only [hTw, Bool.not_true, Bool.not_false, Bool.true_and, Bool.false_and, Bool.and_true, Bool.and_false, Bool.true_or, Bool.false_or, Bool.or_true, Bool.or_false]); (first | (guard_hyp hTw : true = true; clear hTw) | (guard_hyp hTw : false = false; clear hTw) | (revert hTw; intro _))))
              | ((with_reducible refine two_intro ?_ ?_) <;> intro hTw <;> first | (exact Bool.noConfusion hTw) | ((first | (guard_hyp hTw : true = true; clear hTw) | (guard_hyp hTw : false = false; clear hTw) | (revert hTw; intro _))))
              | ((with_reducible refine And.intro ?_ ?_); (focus (first | exact eqEnt_ | omega | rfl | decide | grind)))
              | (with_reducible refine aw_block ?_)
              | (with_reducible refine aw_scope ?_)
              | ((first
                  | ((with_reducible refine aw_regionA T_ok ?_ ?_); (focus kernel_rfl))
                  | ((with_reducible refine aw_drawnA T_ok ?_ ?_ ?_ ?_); (focus kernel_rfl); (focus kernel_rfl); (focus kernel_rfl))
                  | (with_reducible refine aw_label ?_)
                  | ((with_reducible refine aw_rfM ?_ ?_); (focus kernel_rfl))
                  | (with_reducible refine aw_skip ?_)
                  | (with_reducible refine aw_exit ?_)
                  | ((with_reducible refine aw_condM ?_ ?_); (focus kernel_rfl))
                  | (with_reducible refine aw_ret ?_)
                ); simp only [↓rwp.eq_def, ↓sop.eq_def, ↓slotK.eq_def, inV, shT, unT, inQ, rfQ, rfEnd, resOf, pickT, setP, ydA, ydQ, rowW, vD, fillV,  ↓gop.eq_def, ↓hop.eq_def, ↓hopH.eq_def, ↓hwp.eq_def, ↓ldV.eq_def, ↓ldK.eq_def, ↓ixK.eq_def, ↓addOff.eq_def, ↓exK.eq_def, ↓notK.eq_def, ↓pickK.eq_def, ↓iop2.eq_def, ↓binK.eq_def, ↓eqop.eq_def, icells, ↓iop.eq_def, ↓cutK.eq_def, ↓lenK.eq_def, ↓lenM.eq_def, tyInt, ↓lookK.eq_def, ↓mpK.eq_def, keyV, allI, fitK, lkM, upM, dlM, kq, ↓cvK.eq_def, ↓mmK.eq_def, ↓biK.eq_def, ↓stK.eq_def, ↓apK.eq_def, ↓apD.eq_def, ↓apS.eq_def, nxt, put, setT, setB, delB, lkT_n, lkT_c, lkB_n, lkB_c, ev, ofC, inT, ofA, ofRet, dV_n, dV_c, getD_enc, toDs_dV, List.head?_cons, List.length_map, Option.toArray_some, Option.toArray_none, Int.toNat_natCast, slOf, TyK.agg, vcells, splice, pickOps, zOf, strip, stripP, gOf, allP, rowV, toDs, toD, toA, toAs, headOps, tailOps, isT, addN, Op.operands, Call.operands, List.map_cons, List.map_nil, List.drop_zero, List.drop_succ_cons, List.take_succ_cons, List.take_zero, List.length_cons, List.length_nil, List.getElem?_cons_zero, List.getElem?_cons_succ, List.getElem?_toArray, Option.bind_some, Option.map_some, Option.map_none, List.append_nil, List.nil_append, List.cons_append, if_true, if_false, reduceIte, Nat.reduceEqDiff, Nat.reduceAdd, Nat.reduceSub, Int.reduceToNat, Nat.reduceLeDiff, Nat.reduceLT, and_false, and_self, Nat.zero_add, Nat.add_zero, reduceCtorEq, Option.getD_some, Option.getD_none, Option.isSome_some, Option.isSome_none, forall_const, true_and, and_true, true_implies, Bool.true_and, Bool.false_and, Bool.and_true, Bool.and_false, Bool.true_or, Bool.false_or, Bool.or_true, Bool.or_false, beq_self_eq_true, zipM, zcells, Value.cells, Value.oneCell', List.toList_toArray, Array.toList_append, Bool.not_not, List.cons.injEq, Int.reduceEq, eq_self, false_and, Bool.not_true, Bool.not_false, ne_eq, not_false_eq_true, imp_self, implies_true, av_bt, av_bf, av_and, av_or, av_nf, av_tt, av_n1, av_n2, av_t1, av_tp, retQ, retL, resV, RetV, RetOk, SubL, entD_len, entD_take, entD_hd, entD_ln, entD_ic, entD_d1, entD_d2, entD_d3, entD_d4, entD_d5, entD_d6, entD_d7, ty_39, ty_3, ty_22, ty_4, entEq, hd3, ← hz]; try simp (disch := omega) only [av_w, av_t1, av_tp, Int.toNat_natCast]))
            · rename_i h1
              exfalso
              simp only [Bool.and_eq_true, Bool.or_eq_true, beq_iff_eq] at h1
              exact hno ⟨h1.1.1, h1.1.2, h1.2⟩
            · refine ⟨i + 1, by omega, by dsimp only; omega, wk_of [(0, some 0)] rfl rfl ?_ ?_⟩
              · simp only [wkT, wkB, wkB1, subV, subVs, subD, subB, lkN_n, lkN_c, lkT_n, lkT_c, lkB_n, lkB_c, if_true, if_false, reduceIte, Nat.reduceEqDiff, true_and, and_true, and_self, inT, ofA]
                (repeat' (first | exact trivial | rfl | exact rfl | refine And.intro ?_ ?_))
              · simp only [wkT, wkB, wkB1, subV, subVs, subD, subB, lkN_n, lkN_c, lkT_n, lkT_c, lkB_n, lkB_c, if_true, if_false, reduceIte, Nat.reduceEqDiff, true_and, and_true, and_self, inT, ofA]
                exact subVs_ent _ _
          · obtain rfl : i = zs.length := by omega
            have hd3 := ged (Nat.le_refl zs.length)
            repeat' (first
              | (with_reducible refine aw_seq ?_)
              | ((with_reducible refine twoG_intro ?_ ?_) <;> intro hTw <;> first | (exact Bool.noConfusion hTw) | ((try simp only [hTw, Bool.not_true, Bool.not_false, Bool.true_and, Bool.false_and, Bool.and_true, Bool.and_false, Bool.true_or, Bool.false_or, Bool.or_true, Bool.or_false]); (first | (guard_hyp hTw : true = true; clear hTw) | (guard_hyp hTw : false = false; clear hTw) | (revert hTw; intro _))))
              | ((with_reducible refine two_intro ?_ ?_) <;> intro hTw <;> first | (exact Bool.noConfusion hTw) | ((first | (guard_hyp hTw : true = true; clear hTw) | (guard_hyp hTw : false = false; clear hTw) | (revert hTw; intro _))))
              | ((with_reducible refine And.intro ?_ ?_); (focus (first | exact eqEnt_ | omega | rfl | decide | grind)))
              | (with_reducible refine aw_block ?_)
              | (with_reducible refine aw_scope ?_)
              | ((first
                  | ((with_reducible refine aw_regionA T_ok ?_ ?_); (focus kernel_rfl))
                  | ((with_reducible refine aw_drawnA T_ok ?_ ?_ ?_ ?_); (focus kernel_rfl); (focus kernel_rfl); (focus kernel_rfl))
                  | (with_reducible refine aw_label ?_)
                  | ((with_reducible refine aw_rfM ?_ ?_); (focus kernel_rfl))
                  | (with_reducible refine aw_skip ?_)
                  | (with_reducible refine aw_exit ?_)
                  | ((with_reducible refine aw_condM ?_ ?_); (focus kernel_rfl))
                  | (with_reducible refine aw_ret ?_)
                ); simp only [↓rwp.eq_def, ↓sop.eq_def, ↓slotK.eq_def, inV, shT, unT, inQ, rfQ, rfEnd, resOf, pickT, setP, ydA, ydQ, rowW, vD, fillV,  ↓gop.eq_def, ↓hop.eq_def, ↓hopH.eq_def, ↓hwp.eq_def, ↓ldV.eq_def, ↓ldK.eq_def, ↓ixK.eq_def, ↓addOff.eq_def, ↓exK.eq_def, ↓notK.eq_def, ↓pickK.eq_def, ↓iop2.eq_def, ↓binK.eq_def, ↓eqop.eq_def, icells, ↓iop.eq_def, ↓cutK.eq_def, ↓lenK.eq_def, ↓lenM.eq_def, tyInt, ↓lookK.eq_def, ↓mpK.eq_def, keyV, allI, fitK, lkM, upM, dlM, kq, ↓cvK.eq_def, ↓mmK.eq_def, ↓biK.eq_def, ↓stK.eq_def, ↓apK.eq_def, ↓apD.eq_def, ↓apS.eq_def, nxt, put, setT, setB, delB, lkT_n, lkT_c, lkB_n, lkB_c, ev, ofC, inT, ofA, ofRet, dV_n, dV_c, getD_enc, toDs_dV, List.head?_cons, List.length_map, Option.toArray_some, Option.toArray_none, Int.toNat_natCast, slOf, TyK.agg, vcells, splice, pickOps, zOf, strip, stripP, gOf, allP, rowV, toDs, toD, toA, toAs, headOps, tailOps, isT, addN, Op.operands, Call.operands, List.map_cons, List.map_nil, List.drop_zero, List.drop_succ_cons, List.take_succ_cons, List.take_zero, List.length_cons, List.length_nil, List.getElem?_cons_zero, List.getElem?_cons_succ, List.getElem?_toArray, Option.bind_some, Option.map_some, Option.map_none, List.append_nil, List.nil_append, List.cons_append, if_true, if_false, reduceIte, Nat.reduceEqDiff, Nat.reduceAdd, Nat.reduceSub, Int.reduceToNat, Nat.reduceLeDiff, Nat.reduceLT, and_false, and_self, Nat.zero_add, Nat.add_zero, reduceCtorEq, Option.getD_some, Option.getD_none, Option.isSome_some, Option.isSome_none, forall_const, true_and, and_true, true_implies, Bool.true_and, Bool.false_and, Bool.and_true, Bool.and_false, Bool.true_or, Bool.false_or, Bool.or_true, Bool.or_false, beq_self_eq_true, zipM, zcells, Value.cells, Value.oneCell', List.toList_toArray, Array.toList_append, Bool.not_not, List.cons.injEq, Int.reduceEq, eq_self, false_and, Bool.not_true, Bool.not_false, ne_eq, not_false_eq_true, imp_self, implies_true, av_bt, av_bf, av_and, av_or, av_nf, av_tt, av_n1, av_n2, av_t1, av_tp, retQ, retL, resV, RetV, RetOk, SubL, entD_len, entD_take, entD_hd, entD_ln, entD_ic, entD_d1, entD_d2, entD_d3, entD_d4, entD_d5, entD_d6, entD_d7, ty_39, ty_3, ty_22, ty_4, entEq, hd3]; try simp (disch := omega) only [av_w, av_t1, av_tp, Int.toNat_natCast]))
            refine ⟨j + 1, by omega, by dsimp only; omega, wk_of [] rfl rfl ?_ ?_⟩
            · simp only [wkT, wkB, wkB1, subV, subVs, subD, subB, lkN_n, lkN_c, lkT_n, lkT_c, lkB_n, lkB_c, if_true, if_false, reduceIte, Nat.reduceEqDiff, true_and, and_true, and_self, inT, ofA]
              (repeat' (first | exact trivial | rfl | exact rfl | refine And.intro ?_ ?_))
            · simp only [wkT, wkB, wkB1, subV, subVs, subD, subB, lkN_n, lkN_c, lkT_n, lkT_c, lkB_n, lkB_c, if_true, if_false, reduceIte, Nat.reduceEqDiff, true_and, and_true, and_self, inT, ofA]
        · obtain rfl : j = xs.length := by omega
          have hd2 := ged (Nat.le_refl xs.length)
          repeat' (first
            | (with_reducible refine aw_seq ?_)
            | ((with_reducible refine twoG_intro ?_ ?_) <;> intro hTw <;> first | (exact Bool.noConfusion hTw) | ((try simp only [hTw, Bool.not_true, Bool.not_false, Bool.true_and, Bool.false_and, Bool.and_true, Bool.and_false, Bool.true_or, Bool.false_or, Bool.or_true, Bool.or_false]); (first | (guard_hyp hTw : true = true; clear hTw) | (guard_hyp hTw : false = false; clear hTw) | (revert hTw; intro _))))
            | ((with_reducible refine two_intro ?_ ?_) <;> intro hTw <;> first | (exact Bool.noConfusion hTw) | ((first | (guard_hyp hTw : true = true; clear hTw) | (guard_hyp hTw : false = false; clear hTw) | (revert hTw; intro _))))
            | ((with_reducible refine And.intro ?_ ?_); (focus (first | exact eqEnt_ | omega | rfl | decide | grind)))
            | (with_reducible refine aw_block ?_)
            | (with_reducible refine aw_scope ?_)
            | ((first
                | ((with_reducible refine aw_regionA T_ok ?_ ?_); (focus kernel_rfl))
                | ((with_reducible refine aw_drawnA T_ok ?_ ?_ ?_ ?_); (focus kernel_rfl); (focus kernel_rfl); (focus kernel_rfl))
                | (with_reducible refine aw_label ?_)
                | ((with_reducible refine aw_rfM ?_ ?_); (focus kernel_rfl))
                | (with_reducible refine aw_skip ?_)
                | (with_reducible refine aw_exit ?_)
                | ((with_reducible refine aw_condM ?_ ?_); (focus kernel_rfl))
                | (with_reducible refine aw_ret ?_)
              ); simp only [↓rwp.eq_def, ↓sop.eq_def, ↓slotK.eq_def, inV, shT, unT, inQ, rfQ, rfEnd, resOf, pickT, setP, ydA, ydQ, rowW, vD, fillV,  ↓gop.eq_def, ↓hop.eq_def, ↓hopH.eq_def, ↓hwp.eq_def, ↓ldV.eq_def, ↓ldK.eq_def, ↓ixK.eq_def, ↓addOff.eq_def, ↓exK.eq_def, ↓notK.eq_def, ↓pickK.eq_def, ↓iop2.eq_def, ↓binK.eq_def, ↓eqop.eq_def, icells, ↓iop.eq_def, ↓cutK.eq_def, ↓lenK.eq_def, ↓lenM.eq_def, tyInt, ↓lookK.eq_def, ↓mpK.eq_def, keyV, allI, fitK, lkM, upM, dlM, kq, ↓cvK.eq_def, ↓mmK.eq_def, ↓biK.eq_def, ↓stK.eq_def, ↓apK.eq_def, ↓apD.eq_def, ↓apS.eq_def, nxt, put, setT, setB, delB, lkT_n, lkT_c, lkB_n, lkB_c, ev, ofC, inT, ofA, ofRet, dV_n, dV_c, getD_enc, toDs_dV, List.head?_cons, List.length_map, Option.toArray_some, Option.toArray_none, Int.toNat_natCast, slOf, TyK.agg, vcells, splice, pickOps, zOf, strip, stripP, gOf, allP, rowV, toDs, toD, toA, toAs, headOps, tailOps, isT, addN, Op.operands, Call.operands, List.map_cons, List.map_nil, List.drop_zero, List.drop_succ_cons, List.take_succ_cons, List.take_zero, List.length_cons, List.length_nil, List.getElem?_cons_zero, List.getElem?_cons_succ, List.getElem?_toArray, Option.bind_some, Option.map_some, Option.map_none, List.append_nil, List.nil_append, List.cons_append, if_true, if_false, reduceIte, Nat.reduceEqDiff, Nat.reduceAdd, Nat.reduceSub, Int.reduceToNat, Nat.reduceLeDiff, Nat.reduceLT, and_false, and_self, Nat.zero_add, Nat.add_zero, reduceCtorEq, Option.getD_some, Option.getD_none, Option.isSome_some, Option.isSome_none, forall_const, true_and, and_true, true_implies, Bool.true_and, Bool.false_and, Bool.and_true, Bool.and_false, Bool.true_or, Bool.false_or, Bool.or_true, Bool.or_false, beq_self_eq_true, zipM, zcells, Value.cells, Value.oneCell', List.toList_toArray, Array.toList_append, Bool.not_not, List.cons.injEq, Int.reduceEq, eq_self, false_and, Bool.not_true, Bool.not_false, ne_eq, not_false_eq_true, imp_self, implies_true, av_bt, av_bf, av_and, av_or, av_nf, av_tt, av_n1, av_n2, av_t1, av_tp, retQ, retL, resV, RetV, RetOk, SubL, entD_len, entD_take, entD_hd, entD_ln, entD_ic, entD_d1, entD_d2, entD_d3, entD_d4, entD_d5, entD_d6, entD_d7, ty_39, ty_3, ty_22, ty_4, entEq, hd2]; try simp (disch := omega) only [av_w, av_t1, av_tp, Int.toNat_natCast]))
          exact Sub.refl _
    · have hne : (errS l day time != 0) = true := by simpa using he
      have hse : standE l day time = [] := by rw [standE, if_neg he]
      have hG := gstanding_spec l day time hl hk
      rw [hse] at hG
      repeat' (first
        | (with_reducible refine aw_seq ?_)
        | ((with_reducible refine twoG_intro ?_ ?_) <;> intro hTw <;> first | (exact Bool.noConfusion hTw) | ((try simp only [hTw, Bool.not_true, Bool.not_false, Bool.true_and, Bool.false_and, Bool.and_true, Bool.and_false, Bool.true_or, Bool.false_or, Bool.or_true, Bool.or_false]); (first | (guard_hyp hTw : true = true; clear hTw) | (guard_hyp hTw : false = false; clear hTw) | (revert hTw; intro _))))
        | ((with_reducible refine two_intro ?_ ?_) <;> intro hTw <;> first | (exact Bool.noConfusion hTw) | ((first | (guard_hyp hTw : true = true; clear hTw) | (guard_hyp hTw : false = false; clear hTw) | (revert hTw; intro _))))
        | ((with_reducible refine And.intro ?_ ?_); (focus (first | exact eqEnt_ | omega | rfl | decide | grind)))
        | (with_reducible refine aw_block ?_)
        | (with_reducible refine aw_scope ?_)
        | ((first
            | ((with_reducible refine aw_regionA T_ok ?_ ?_); (focus kernel_rfl))
            | ((with_reducible refine aw_drawnA T_ok ?_ ?_ ?_ ?_); (focus kernel_rfl); (focus kernel_rfl); (focus kernel_rfl))
            | ((with_reducible refine callK_intro (rsane_spec) (by with_unfolding_all rfl) ?_ ?_); (focus kernel_rfl))
            | ((with_reducible refine callI_spec (rsane_spec) (by with_unfolding_all rfl) ?_ ?_ ?_); (focus kernel_rfl); (focus kernel_rfl))
            | ((with_reducible refine callK_intro (few_spec l hl) (by with_unfolding_all rfl) ?_ ?_); (focus kernel_rfl))
            | ((with_reducible refine callI_spec (few_spec l hl) (by with_unfolding_all rfl) ?_ ?_ ?_); (focus kernel_rfl); (focus kernel_rfl))
            | ((with_reducible refine callK_intro (hG) (by with_unfolding_all rfl) ?_ ?_); (focus kernel_rfl))
            | ((with_reducible refine callI_spec (hG) (by with_unfolding_all rfl) ?_ ?_ ?_); (focus kernel_rfl); (focus kernel_rfl))
            | ((with_reducible refine callK_intro (echeck_spec l hl) (by with_unfolding_all rfl) ?_ ?_); (focus kernel_rfl))
            | ((with_reducible refine callI_spec (echeck_spec l hl) (by with_unfolding_all rfl) ?_ ?_ ?_); (focus kernel_rfl); (focus kernel_rfl))
            | (with_reducible refine aw_label ?_)
            | ((with_reducible refine aw_rfM ?_ ?_); (focus kernel_rfl))
            | (with_reducible refine aw_skip ?_)
            | (with_reducible refine aw_exit ?_)
            | ((with_reducible refine aw_condM ?_ ?_); (focus kernel_rfl))
            | (with_reducible refine aw_ret ?_)
          ); simp only [↓rwp.eq_def, ↓sop.eq_def, ↓slotK.eq_def, inV, shT, unT, inQ, rfQ, rfEnd, resOf, pickT, setP, ydA, ydQ, rowW, vD, fillV,  ↓gop.eq_def, ↓hop.eq_def, ↓hopH.eq_def, ↓hwp.eq_def, ↓ldV.eq_def, ↓ldK.eq_def, ↓ixK.eq_def, ↓addOff.eq_def, ↓exK.eq_def, ↓notK.eq_def, ↓pickK.eq_def, ↓iop2.eq_def, ↓binK.eq_def, ↓eqop.eq_def, icells, ↓iop.eq_def, ↓cutK.eq_def, ↓lenK.eq_def, ↓lenM.eq_def, tyInt, ↓lookK.eq_def, ↓mpK.eq_def, keyV, allI, fitK, lkM, upM, dlM, kq, ↓cvK.eq_def, ↓mmK.eq_def, ↓biK.eq_def, ↓stK.eq_def, ↓apK.eq_def, ↓apD.eq_def, ↓apS.eq_def, nxt, put, setT, setB, delB, lkT_n, lkT_c, lkB_n, lkB_c, ev, ofC, inT, ofA, ofRet, dV_n, dV_c, getD_enc, toDs_dV, List.head?_cons, List.length_map, Option.toArray_some, Option.toArray_none, Int.toNat_natCast, slOf, TyK.agg, vcells, splice, pickOps, zOf, strip, stripP, gOf, allP, rowV, toDs, toD, toA, toAs, headOps, tailOps, isT, addN, Op.operands, Call.operands, List.map_cons, List.map_nil, List.drop_zero, List.drop_succ_cons, List.take_succ_cons, List.take_zero, List.length_cons, List.length_nil, List.getElem?_cons_zero, List.getElem?_cons_succ, List.getElem?_toArray, Option.bind_some, Option.map_some, Option.map_none, List.append_nil, List.nil_append, List.cons_append, if_true, if_false, reduceIte, Nat.reduceEqDiff, Nat.reduceAdd, Nat.reduceSub, Int.reduceToNat, Nat.reduceLeDiff, Nat.reduceLT, and_false, and_self, Nat.zero_add, Nat.add_zero, reduceCtorEq, Option.getD_some, Option.getD_none, Option.isSome_some, Option.isSome_none, forall_const, true_and, and_true, true_implies, Bool.true_and, Bool.false_and, Bool.and_true, Bool.and_false, Bool.true_or, Bool.false_or, Bool.or_true, Bool.or_false, beq_self_eq_true, zipM, zcells, Value.cells, Value.oneCell', List.toList_toArray, Array.toList_append, Bool.not_not, List.cons.injEq, Int.reduceEq, eq_self, false_and, Bool.not_true, Bool.not_false, ne_eq, not_false_eq_true, imp_self, implies_true, av_bt, av_bf, av_and, av_or, av_nf, av_tt, av_n1, av_n2, av_t1, av_tp, retQ, retL, resV, RetV, RetOk, SubL, entD_len, entD_take, entD_hd, entD_ln, entD_ic, entD_d1, entD_d2, entD_d3, entD_d4, entD_d5, entD_d6, entD_d7, ty_39, ty_3, ty_22, ty_4, entEq, hf, hne]; try simp (disch := omega) only [av_w, av_t1, av_tp, Int.toNat_natCast]))
      have hec : (checkL l == errS l day time || errS l day time == 1) = true := by
        have := he
        unfold errS at *
        split
        · simp
        · rename_i h1
          rw [if_neg h1] at this
          split
          · simp
          · rename_i h2; rw [if_neg h2] at this; exact absurd rfl this
      exact Sub.of_eq (congrArg aB (by rw [hec]; rfl))
end Go.Proofs.Ytfmefdeldgmhpaa
