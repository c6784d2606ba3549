import Derived.Test.YtnlaiaklafjamaaGB17
import Derived.Test.YtnlaiaklafjamaaGB15
import Derived.Test.YtnlaiaklafjamaaGB7
namespace Go.Proofs.Ytnlaiaklafjamaa
set_option linter.unusedSimpArgs false
set_option linter.unusedVariables false
open Go.RowKit
set_option maxRecDepth 100000
set_option maxHeartbeats 8000000
theorem glaw4_spec (f : FlowP) (R : List (List Int)) (x : LotP) (hf : OkF f) (hR : R.length ≤ 140737488351232 ∧ ∀ l ∈ R, OkI l) (hx : OkL x) : Spec Try.prog 6 [.agg (flowD f), aIss R, .agg (lotD x)] (.r1 (aB true)) := by
  refine spec_of T_ok Try.func6 (by dsimp only [Try.f6]) rfl rfl (by simp) fun w F => ?_
  have hG := gright_spec f hf
  have hxi := hx.li
  have hxp := hx.lp
  obtain ⟨hr1, hr2⟩ := hR
  by_cases hu : rightU f = true ∧ x.inn.length ≤ 12 ∧ x.perm.length ≤ 12 ∧ R.length ≤ 20
  rotate_left
  · have hd : (!rightU f || decide ((x.inn.length : Int) > 12) || decide ((x.perm.length : Int) > 12) || decide ((R.length : Int) > 20)) = true := by
      cases h1 : rightU f with
      | false => rfl
      | true =>
        rw [Bool.not_true, Bool.false_or, Bool.or_eq_true, Bool.or_eq_true, decide_eq_true_eq, decide_eq_true_eq, decide_eq_true_eq]
        apply Classical.byContradiction
        intro h
        exact hu ⟨h1, by omega, by omega, by omega⟩
    repeat' (first
      | (with_reducible refine aw_seq ?_)
      | ((with_reducible refine twoG_intro ?_ ?_) <;> intro hTw <;> first | (exact Bool.noConfusion hTw) | ((try simp only [hTw, Bool.not_true, Bool.not_false, Bool.true_and, Bool.false_and, Bool.and_true, Bool.and_false, Bool.true_or, Bool.false_or, Bool.or_true, Bool.or_false]); (first | (guard_hyp hTw : true = true; clear hTw) | (guard_hyp hTw : false = false; clear hTw) | (revert hTw; intro _))))
      | ((with_reducible refine two_intro ?_ ?_) <;> intro hTw <;> first | (exact Bool.noConfusion hTw) | ((first | (guard_hyp hTw : true = true; clear hTw) | (guard_hyp hTw : false = false; clear hTw) | (revert hTw; intro _))))
      | ((with_reducible refine And.intro ?_ ?_); (focus (first | omega | rfl | decide | grind)))
      | (with_reducible refine aw_block ?_)
      | (with_reducible refine aw_scope ?_)
      | ((first
          | ((with_reducible refine aw_regionA T_ok ?_ ?_); (focus kernel_rfl))
          | ((with_reducible refine aw_drawnA T_ok ?_ ?_ ?_ ?_); (focus kernel_rfl); (focus kernel_rfl); (focus (decide +kernel)))
          | ((with_reducible refine aw_drawnF T_ok ?_ ?_ ?_ ?_); (focus kernel_rfl); (focus kernel_rfl); (focus (decide +kernel)))
          | ((with_reducible refine callK_intro (gsane30_spec) (by with_unfolding_all rfl) ?_ ?_); (focus kernel_rfl))
          | ((with_reducible refine callI_spec (gsane30_spec) (by with_unfolding_all rfl) ?_ ?_ ?_); (focus kernel_rfl); (focus kernel_rfl))
          | ((with_reducible refine callK_intro (hG) (by with_unfolding_all rfl) ?_ ?_); (focus kernel_rfl))
          | ((with_reducible refine callI_spec (hG) (by with_unfolding_all rfl) ?_ ?_ ?_); (focus kernel_rfl); (focus kernel_rfl))
          | (with_reducible refine aw_label ?_)
          | ((with_reducible refine aw_rfM ?_ ?_); (focus kernel_rfl))
          | (with_reducible refine aw_skip ?_)
          | (with_reducible refine aw_exit ?_)
          | ((with_reducible refine aw_condM ?_ ?_); (focus kernel_rfl))
          | (with_reducible refine aw_ret ?_)
        ); simp only [↓avP, avQ, if_true, if_false, forall_const, beq_self_eq_true, eq_self, ne_eq, implies_true, reduceIte, Nat.reduceEqDiff, Nat.reduceAdd, Nat.reduceSub, Int.reduceToNat, Nat.reduceLeDiff, Nat.reduceLT, reduceCtorEq, Int.reduceEq, retQ, retL, resV, RetV, RetOk, SubL, intD_B, lotD_B, flowD_B, seenD_B, snocI, snocL, seen_take2, seen_take1, seen_drop3, gb_app, gb_t2, gb_d3, gb_len, gb_one, ty_3, ty_28, ty_4, ty_24, ty_30, ty_22, ty_25, ty_27, issD_get, hd]; try simp (disch := omega) only [av_w, av_t1, av_tp, Int.toNat_natCast]))
    exact Sub.refl _
  obtain ⟨h1, h2, h3, h4⟩ := hu
  obtain ⟨_, _, hc⟩ := rightU_iff.1 h1
  rw [h1, show rightS f = ⟨f, matR f⟩ by rw [rightS, h1]; rfl] at hG
  have g1 : decide ((x.inn.length : Int) > 12) = false := decide_eq_false (by omega)
  have g2 : decide ((x.perm.length : Int) > 12) = false := decide_eq_false (by omega)
  have g3 : decide ((R.length : Int) > 20) = false := decide_eq_false (by omega)
  have hrl : ∀ k, (R.getD k []).length ≤ 140737488351232 := fun k => by
    rcases Nat.lt_or_ge k R.length with hk | hk
    · rw [List.getD, List.getElem?_eq_getElem hk]; exact (hr2 _ (by simp)).1
    · rw [List.getD, List.getElem?_eq_none hk]; simp
  repeat' (first
    | (with_reducible refine aw_seq ?_)
    | ((with_reducible refine twoG_intro ?_ ?_) <;> intro hTw <;> first | (exact Bool.noConfusion hTw) | ((try simp only [hTw, Bool.not_true, Bool.not_false, Bool.true_and, Bool.false_and, Bool.and_true, Bool.and_false, Bool.true_or, Bool.false_or, Bool.or_true, Bool.or_false]); (first | (guard_hyp hTw : true = true; clear hTw) | (guard_hyp hTw : false = false; clear hTw) | (revert hTw; intro _))))
    | ((with_reducible refine two_intro ?_ ?_) <;> intro hTw <;> first | (exact Bool.noConfusion hTw) | ((first | (guard_hyp hTw : true = true; clear hTw) | (guard_hyp hTw : false = false; clear hTw) | (revert hTw; intro _))))
    | ((with_reducible refine And.intro ?_ ?_); (focus (first | omega | rfl | decide | grind)))
    | (with_reducible refine aw_block ?_)
    | (with_reducible refine aw_scope ?_)
    | ((first
        | ((with_reducible refine aw_regionA T_ok ?_ ?_); (focus kernel_rfl))
        | ((with_reducible refine aw_drawnA T_ok ?_ ?_ ?_ ?_); (focus kernel_rfl); (focus kernel_rfl); (focus (decide +kernel)))
        | ((with_reducible refine aw_drawnF T_ok ?_ ?_ ?_ ?_); (focus kernel_rfl); (focus kernel_rfl); (focus (decide +kernel)))
        | ((with_reducible refine callK_intro (gsane30_spec) (by with_unfolding_all rfl) ?_ ?_); (focus kernel_rfl))
        | ((with_reducible refine callI_spec (gsane30_spec) (by with_unfolding_all rfl) ?_ ?_ ?_); (focus kernel_rfl); (focus kernel_rfl))
        | ((with_reducible refine callK_intro (hG) (by with_unfolding_all rfl) ?_ ?_); (focus kernel_rfl))
        | ((with_reducible refine callI_spec (hG) (by with_unfolding_all rfl) ?_ ?_ ?_); (focus kernel_rfl); (focus kernel_rfl))
        | (with_reducible refine aw_label ?_)
        | ((with_reducible refine aw_rfM ?_ ?_); (focus kernel_rfl))
        | (with_reducible refine aw_skip ?_)
        | (with_reducible refine aw_exit ?_)
        | ((with_reducible refine aw_condM ?_ ?_); (focus kernel_rfl))
        | (with_reducible refine aw_ret ?_)
      ); simp only [↓avP, avQ, if_true, if_false, forall_const, beq_self_eq_true, eq_self, ne_eq, implies_true, reduceIte, Nat.reduceEqDiff, Nat.reduceAdd, Nat.reduceSub, Int.reduceToNat, Nat.reduceLeDiff, Nat.reduceLT, reduceCtorEq, Int.reduceEq, retQ, retL, resV, RetV, RetOk, SubL, intD_B, lotD_B, flowD_B, seenD_B, snocI, snocL, seen_take2, seen_take1, seen_drop3, gb_app, gb_t2, gb_d3, gb_len, gb_one, ty_3, ty_28, ty_4, ty_24, ty_30, ty_22, ty_25, ty_27, issD_get, g1, g2, g3]; try simp (disch := omega) only [av_w, av_t1, av_tp, Int.toNat_natCast]))
  refine aw_loopI (fun k : Nat => ⟨[(1, vIss R), (3, .ptr 0 0), (5, .ptr 1 0), (7, .ptr 2 0), (47, vIss R), (48, vI R.length), (49, vI k)], [(2, .cells 27 (dV (seenD ⟨f, matR f⟩))), (1, .cells 30 (dV (lotD x))), (0, .cells 24 (dV (flowD f)))], 3⟩)
    (fun k => k ≤ R.length) (fun k => R.length - k) 0 (Nat.zero_le _) (wk_of [(0, some 0), (1, some 1), (2, some 2)] rfl rfl ?_ ?_) ?_
  · simp only [wkT, wkB, wkB1, subV, subVs, subD, subB, lkN_n, lkN_c, lkT_n, lkT_c, lkB_n, lkB_c, if_true, if_false, reduceIte, Nat.reduceEqDiff, true_and, and_true, and_self, inT, ofA]
    (repeat' (first | exact trivial | rfl | exact rfl | exact subVs_d _ _ | exact subVs_dm _ _ | exact subD_refl _ | refine And.intro ?_ ?_))
  · simp only [wkT, wkB, wkB1, subV, subVs, subD, subB, lkN_n, lkN_c, lkT_n, lkT_c, lkB_n, lkB_c, if_true, if_false, reduceIte, Nat.reduceEqDiff, true_and, and_true, and_self, inT, ofA]
    (repeat' (first | exact trivial | rfl | exact rfl | exact subVs_d _ _ | exact subVs_dm _ _ | exact subD_refl _ | refine And.intro ?_ ?_))
  intro k hk
  rcases Nat.lt_or_ge k R.length with hlt | hge
  · have hd := ltd hlt
    have hrk := hrl k
    by_cases hb : (R.getD k []).length ≤ 40
    · have hd1 : decide (((R.getD k []).length : Int) > 40) = false := decide_eq_false (by omega)
      repeat' (first
        | (with_reducible refine aw_seq ?_)
        | ((with_reducible refine twoG_intro ?_ ?_) <;> intro hTw <;> first | (exact Bool.noConfusion hTw) | ((try simp only [hTw, Bool.not_true, Bool.not_false, Bool.true_and, Bool.false_and, Bool.and_true, Bool.and_false, Bool.true_or, Bool.false_or, Bool.or_true, Bool.or_false]); (first | (guard_hyp hTw : true = true; clear hTw) | (guard_hyp hTw : false = false; clear hTw) | (revert hTw; intro _))))
        | ((with_reducible refine two_intro ?_ ?_) <;> intro hTw <;> first | (exact Bool.noConfusion hTw) | ((first | (guard_hyp hTw : true = true; clear hTw) | (guard_hyp hTw : false = false; clear hTw) | (revert hTw; intro _))))
        | ((with_reducible refine And.intro ?_ ?_); (focus (first | omega | rfl | decide | grind)))
        | (with_reducible refine aw_block ?_)
        | (with_reducible refine aw_scope ?_)
        | ((first
            | ((with_reducible refine aw_regionA T_ok ?_ ?_); (focus kernel_rfl))
            | ((with_reducible refine aw_drawnA T_ok ?_ ?_ ?_ ?_); (focus kernel_rfl); (focus kernel_rfl); (focus (decide +kernel)))
            | ((with_reducible refine aw_drawnF T_ok ?_ ?_ ?_ ?_); (focus kernel_rfl); (focus kernel_rfl); (focus (decide +kernel)))
            | (with_reducible refine aw_label ?_)
            | ((with_reducible refine aw_rfM ?_ ?_); (focus kernel_rfl))
            | (with_reducible refine aw_skip ?_)
            | (with_reducible refine aw_exit ?_)
            | ((with_reducible refine aw_condM ?_ ?_); (focus kernel_rfl))
            | (with_reducible refine aw_ret ?_)
          ); simp only [↓avP, avQ, if_true, if_false, forall_const, beq_self_eq_true, eq_self, ne_eq, implies_true, reduceIte, Nat.reduceEqDiff, Nat.reduceAdd, Nat.reduceSub, Int.reduceToNat, Nat.reduceLeDiff, Nat.reduceLT, reduceCtorEq, Int.reduceEq, retQ, retL, resV, RetV, RetOk, SubL, intD_B, lotD_B, flowD_B, seenD_B, snocI, snocL, seen_take2, seen_take1, seen_drop3, gb_app, gb_t2, gb_d3, gb_len, gb_one, ty_3, ty_28, ty_4, ty_24, ty_30, ty_22, ty_25, ty_27, issD_get, hd, hd1]; try simp (disch := omega) only [av_w, av_t1, av_tp, Int.toNat_natCast]))
      refine ⟨k + 1, by omega, by dsimp only; omega, wk_of [(0, some 0), (1, some 1), (2, some 2)] rfl rfl ?_ ?_⟩
      · simp only [wkT, wkB, wkB1, subV, subVs, subD, subB, lkN_n, lkN_c, lkT_n, lkT_c, lkB_n, lkB_c, if_true, if_false, reduceIte, Nat.reduceEqDiff, true_and, and_true, and_self, inT, ofA]
        (repeat' (first | exact trivial | rfl | exact rfl | exact subVs_d _ _ | exact subVs_dm _ _ | exact subD_refl _ | refine And.intro ?_ ?_))
      · simp only [wkT, wkB, wkB1, subV, subVs, subD, subB, lkN_n, lkN_c, lkT_n, lkT_c, lkB_n, lkB_c, if_true, if_false, reduceIte, Nat.reduceEqDiff, true_and, and_true, and_self, inT, ofA]
        (repeat' (first | exact trivial | rfl | exact rfl | exact subVs_d _ _ | exact subVs_dm _ _ | exact subD_refl _ | refine And.intro ?_ ?_))
    · have hd1 : decide (((R.getD k []).length : Int) > 40) = true := decide_eq_true (by omega)
      repeat' (first
        | (with_reducible refine aw_seq ?_)
        | ((with_reducible refine twoG_intro ?_ ?_) <;> intro hTw <;> first | (exact Bool.noConfusion hTw) | ((try simp only [hTw, Bool.not_true, Bool.not_false, Bool.true_and, Bool.false_and, Bool.and_true, Bool.and_false, Bool.true_or, Bool.false_or, Bool.or_true, Bool.or_false]); (first | (guard_hyp hTw : true = true; clear hTw) | (guard_hyp hTw : false = false; clear hTw) | (revert hTw; intro _))))
        | ((with_reducible refine two_intro ?_ ?_) <;> intro hTw <;> first | (exact Bool.noConfusion hTw) | ((first | (guard_hyp hTw : true = true; clear hTw) | (guard_hyp hTw : false = false; clear hTw) | (revert hTw; intro _))))
        | ((with_reducible refine And.intro ?_ ?_); (focus (first | omega | rfl | decide | grind)))
        | (with_reducible refine aw_block ?_)
        | (with_reducible refine aw_scope ?_)
        | ((first
            | ((with_reducible refine aw_regionA T_ok ?_ ?_); (focus kernel_rfl))
            | ((with_reducible refine aw_drawnA T_ok ?_ ?_ ?_ ?_); (focus kernel_rfl); (focus kernel_rfl); (focus (decide +kernel)))
            | ((with_reducible refine aw_drawnF T_ok ?_ ?_ ?_ ?_); (focus kernel_rfl); (focus kernel_rfl); (focus (decide +kernel)))
            | (with_reducible refine aw_label ?_)
            | ((with_reducible refine aw_rfM ?_ ?_); (focus kernel_rfl))
            | (with_reducible refine aw_skip ?_)
            | (with_reducible refine aw_exit ?_)
            | ((with_reducible refine aw_condM ?_ ?_); (focus kernel_rfl))
            | (with_reducible refine aw_ret ?_)
          ); simp only [↓avP, avQ, if_true, if_false, forall_const, beq_self_eq_true, eq_self, ne_eq, implies_true, reduceIte, Nat.reduceEqDiff, Nat.reduceAdd, Nat.reduceSub, Int.reduceToNat, Nat.reduceLeDiff, Nat.reduceLT, reduceCtorEq, Int.reduceEq, retQ, retL, resV, RetV, RetOk, SubL, intD_B, lotD_B, flowD_B, seenD_B, snocI, snocL, seen_take2, seen_take1, seen_drop3, gb_app, gb_t2, gb_d3, gb_len, gb_one, ty_3, ty_28, ty_4, ty_24, ty_30, ty_22, ty_25, ty_27, issD_get, hd, hd1]; try simp (disch := omega) only [av_w, av_t1, av_tp, Int.toNat_natCast]))
      exact Sub.refl _
  obtain rfl : k = R.length := by omega
  have hd := ged (Nat.le_refl R.length)
  have hq := qwsame_spec R (matR f) hrl hr1 (by have := matR_len f; omega)
  by_cases he : R = matR f
  · rw [decide_eq_true he] at hq
    repeat' (first
      | (with_reducible refine aw_seq ?_)
      | ((with_reducible refine twoG_intro ?_ ?_) <;> intro hTw <;> first | (exact Bool.noConfusion hTw) | ((try simp only [hTw, Bool.not_true, Bool.not_false, Bool.true_and, Bool.false_and, Bool.and_true, Bool.and_false, Bool.true_or, Bool.false_or, Bool.or_true, Bool.or_false]); (first | (guard_hyp hTw : true = true; clear hTw) | (guard_hyp hTw : false = false; clear hTw) | (revert hTw; intro _))))
      | ((with_reducible refine two_intro ?_ ?_) <;> intro hTw <;> first | (exact Bool.noConfusion hTw) | ((first | (guard_hyp hTw : true = true; clear hTw) | (guard_hyp hTw : false = false; clear hTw) | (revert hTw; intro _))))
      | ((with_reducible refine And.intro ?_ ?_); (focus (first | omega | rfl | decide | grind)))
      | (with_reducible refine aw_block ?_)
      | (with_reducible refine aw_scope ?_)
      | ((first
          | ((with_reducible refine aw_regionA T_ok ?_ ?_); (focus kernel_rfl))
          | ((with_reducible refine aw_drawnA T_ok ?_ ?_ ?_ ?_); (focus kernel_rfl); (focus kernel_rfl); (focus (decide +kernel)))
          | ((with_reducible refine aw_drawnF T_ok ?_ ?_ ?_ ?_); (focus kernel_rfl); (focus kernel_rfl); (focus (decide +kernel)))
          | ((with_reducible refine callK_intro (hq) (by with_unfolding_all rfl) ?_ ?_); (focus kernel_rfl))
          | ((with_reducible refine callI_spec (hq) (by with_unfolding_all rfl) ?_ ?_ ?_); (focus kernel_rfl); (focus kernel_rfl))
          | (with_reducible refine aw_label ?_)
          | ((with_reducible refine aw_rfM ?_ ?_); (focus kernel_rfl))
          | (with_reducible refine aw_skip ?_)
          | (with_reducible refine aw_exit ?_)
          | ((with_reducible refine aw_condM ?_ ?_); (focus kernel_rfl))
          | (with_reducible refine aw_ret ?_)
        ); simp only [↓avP, avQ, if_true, if_false, forall_const, beq_self_eq_true, eq_self, ne_eq, implies_true, reduceIte, Nat.reduceEqDiff, Nat.reduceAdd, Nat.reduceSub, Int.reduceToNat, Nat.reduceLeDiff, Nat.reduceLT, reduceCtorEq, Int.reduceEq, retQ, retL, resV, RetV, RetOk, SubL, intD_B, lotD_B, flowD_B, seenD_B, snocI, snocL, seen_take2, seen_take1, seen_drop3, gb_app, gb_t2, gb_d3, gb_len, gb_one, ty_3, ty_28, ty_4, ty_24, ty_30, ty_22, ty_25, ty_27, issD_get, hd]; try simp (disch := omega) only [av_w, av_t1, av_tp, Int.toNat_natCast]))
    exact Sub.refl _
  · rw [decide_eq_false he] at hq
    have hA := gadd30_spec ⟨f, R⟩ x ⟨hf, hr1, hrl⟩ hx
    have hE : addE ⟨f, R⟩ x = 250 := by rw [addE, if_neg (by simpa using hc), if_neg (fun h => he h.symm)]
    rw [addG, addC, hE, if_neg (by decide), if_neg (by decide)] at hA
    repeat' (first
      | (with_reducible refine aw_seq ?_)
      | ((with_reducible refine twoG_intro ?_ ?_) <;> intro hTw <;> first | (exact Bool.noConfusion hTw) | ((try simp only [hTw, Bool.not_true, Bool.not_false, Bool.true_and, Bool.false_and, Bool.and_true, Bool.and_false, Bool.true_or, Bool.false_or, Bool.or_true, Bool.or_false]); (first | (guard_hyp hTw : true = true; clear hTw) | (guard_hyp hTw : false = false; clear hTw) | (revert hTw; intro _))))
      | ((with_reducible refine two_intro ?_ ?_) <;> intro hTw <;> first | (exact Bool.noConfusion hTw) | ((first | (guard_hyp hTw : true = true; clear hTw) | (guard_hyp hTw : false = false; clear hTw) | (revert hTw; intro _))))
      | ((with_reducible refine And.intro ?_ ?_); (focus (first | omega | rfl | decide | grind)))
      | (with_reducible refine aw_block ?_)
      | (with_reducible refine aw_scope ?_)
      | ((first
          | ((with_reducible refine aw_regionA T_ok ?_ ?_); (focus kernel_rfl))
          | ((with_reducible refine aw_drawnA T_ok ?_ ?_ ?_ ?_); (focus kernel_rfl); (focus kernel_rfl); (focus (decide +kernel)))
          | ((with_reducible refine aw_drawnF T_ok ?_ ?_ ?_ ?_); (focus kernel_rfl); (focus kernel_rfl); (focus (decide +kernel)))
          | ((with_reducible refine callK_intro (hq) (by with_unfolding_all rfl) ?_ ?_); (focus kernel_rfl))
          | ((with_reducible refine callI_spec (hq) (by with_unfolding_all rfl) ?_ ?_ ?_); (focus kernel_rfl); (focus kernel_rfl))
          | ((with_reducible refine callK_intro (hA) (by with_unfolding_all rfl) ?_ ?_); (focus kernel_rfl))
          | ((with_reducible refine callI_spec (hA) (by with_unfolding_all rfl) ?_ ?_ ?_); (focus kernel_rfl); (focus kernel_rfl))
          | ((with_reducible refine callK_intro (same_seen0) (by with_unfolding_all rfl) ?_ ?_); (focus kernel_rfl))
          | ((with_reducible refine callI_spec (same_seen0) (by with_unfolding_all rfl) ?_ ?_ ?_); (focus kernel_rfl); (focus kernel_rfl))
          | (with_reducible refine aw_label ?_)
          | ((with_reducible refine aw_rfM ?_ ?_); (focus kernel_rfl))
          | (with_reducible refine aw_skip ?_)
          | (with_reducible refine aw_exit ?_)
          | ((with_reducible refine aw_condM ?_ ?_); (focus kernel_rfl))
          | (with_reducible refine aw_ret ?_)
        ); simp only [↓avP, avQ, if_true, if_false, forall_const, beq_self_eq_true, eq_self, ne_eq, implies_true, reduceIte, Nat.reduceEqDiff, Nat.reduceAdd, Nat.reduceSub, Int.reduceToNat, Nat.reduceLeDiff, Nat.reduceLT, reduceCtorEq, Int.reduceEq, retQ, retL, resV, RetV, RetOk, SubL, intD_B, lotD_B, flowD_B, seenD_B, snocI, snocL, seen_take2, seen_take1, seen_drop3, gb_app, gb_t2, gb_d3, gb_len, gb_one, ty_3, ty_28, ty_4, ty_24, ty_30, ty_22, ty_25, ty_27, issD_get, hd]; try simp (disch := omega) only [av_w, av_t1, av_tp, Int.toNat_natCast]))
    exact Sub.refl _
end Go.Proofs.Ytnlaiaklafjamaa


namespace Go.Proofs.Ytnlaiaklafjamaa
set_option linter.unusedSimpArgs false
set_option linter.unusedVariables false
open Go.RowKit
section
variable {f : FlowP} {x a b : LotP}
theorem more_bef (f : FlowP) (x : LotP) : befF (moreF f x) (moreF f x).lots.length = befF f f.lots.length + (x.inn.length : Int) := by
  have hb := befF_succ (f := moreF f x) (k := f.lots.length) (by rw [more_len]; omega)
  have h2 := take_bef (f := moreF f x) (k := f.lots.length) (i := f.lots.length) (Nat.le_refl _)
  rw [take_more] at h2
  rw [more_len, hb, more_at, ← h2]
theorem more_gone (f : FlowP) (x : LotP) : goneF (moreF f x) (moreF f x).lots.length = goneF f f.lots.length ++ x.inn := by
  have hb := goneF_succ (f := moreF f x) (k := f.lots.length) (by rw [more_len]; omega)
  have h2 := take_gone (f := moreF f x) (k := f.lots.length) (i := f.lots.length) (Nat.le_refl _)
  rw [take_more] at h2
  rw [more_len, hb, more_at, ← h2]
theorem more_intro (hc : checkF f = 0) (h1 : f.lots.length + 1 ≤ 2000) (h2 : befF f f.lots.length + (x.inn.length : Int) ≤ 50000) (hg : GoodL (befF f f.lots.length) (goneF f f.lots.length) x) : checkF (moreF f x) = 0 := by
  obtain ⟨z1, z2, z3, z4, z5⟩ := checkF_zero hc
  have hb := more_bef f x
  have hl := more_len f x
  unfold checkF
  rw [if_neg (by rw [hb, hl]; show ¬ (64 < f.senders ∨ _); omega), if_neg (by show ¬ f.senders < 0; omega), if_pos]
  unfold validF
  rw [hl, List.all_eq_true]
  intro i hi
  have hik : i < f.lots.length + 1 := by simpa using hi
  rcases Nat.lt_or_ge i f.lots.length with hlt | hge
  · have := z5 i hlt
    have t1 := take_bef (f := moreF f x) (k := f.lots.length) (i := i) (by omega)
    have t2 := take_gone (f := moreF f x) (k := f.lots.length) (i := i) (by omega)
    have t3 := take_at (f := moreF f x) (k := f.lots.length) (i := i) hlt
    rw [take_more] at t1 t2 t3
    unfold okAt at this ⊢
    rw [← t1, ← t2, ← t3]
    exact this
  · obtain rfl : i = f.lots.length := by omega
    have t1 := take_bef (f := moreF f x) (k := f.lots.length) (i := f.lots.length) (Nat.le_refl _)
    have t2 := take_gone (f := moreF f x) (k := f.lots.length) (i := f.lots.length) (Nat.le_refl _)
    rw [take_more] at t1 t2
    unfold okAt
    rw [← t1, ← t2, more_at]
    exact (goodL_iff _ _ _).2 hg
theorem apart_check (hca : checkF (moreF f a) = 0) (hcb : checkF (moreF f b) = 0) (hab : checkF (moreF (moreF f a) b) = 0) : checkF (moreF (moreF f b) a) = 0 ∧ (∀ t ∈ b.inn, t ∉ a.inn) := by
  have ga := more_good hca
  have gb := more_good hcb
  have gab := more_good hab
  rw [more_bef, more_gone] at gab
  have hdis : ∀ t ∈ b.inn, t ∉ a.inn := fun t ht h => (gab.fr t ht).2.2 (List.mem_append_right _ h)
  obtain ⟨_, z2, z3, _, _⟩ := checkF_zero hab
  have e1 := more_bef (moreF f a) b
  have e2 := more_bef f a
  have e3 := more_bef f b
  rw [e1, e2] at z3
  refine ⟨more_intro hcb ?_ ?_ ?_, hdis⟩
  · simp only [List.length_append, List.length_singleton] at z2 ⊢; omega
  · rw [e3]; omega
  · rw [e3, more_gone]
    refine ⟨ga.ne, ga.nd, fun s hs => ?_, ga.pl, ga.pu⟩
    have := ga.fr s hs
    refine ⟨this.1, by omega, fun h => ?_⟩
    rcases List.mem_append.1 h with h | h
    · exact this.2.2 h
    · exact hdis s h hs
theorem rowN_len2 {B n : Int} {E : List Int} (hb : ∀ t ∈ b.inn, t < B ∧ t ∉ a.inn) :
    (rowN b n (rowN a B E)).length = (E.filter fun t => !decide (t ∈ a.inn) && !decide (t ∈ b.inn)).length + ((List.range a.inn.length).filter (canB a E)).length + ((List.range b.inn.length).filter (canB b E)).length := by
  have hcan : ∀ j, canB b (rowN a B E) j = canB b E j := fun j => by
    have hm : ∀ t ∈ b.inn, (t ∈ rowN a B E ↔ t ∈ E) := fun t ht => by
      have h1 := hb t ht
      unfold rowN
      rw [List.mem_append, List.mem_filter, mem_outL]
      constructor
      · rintro (⟨h2, _⟩ | ⟨j, _, e, _⟩)
        · exact h2
        · omega
      · intro h2
        exact .inl ⟨h2, by simpa using h1.2⟩
    rw [Bool.eq_iff_iff, canB_iff, canB_iff]
    exact ⟨fun ⟨i, h1, h2, h3⟩ => ⟨i, h1, (hm _ (getD_mem h1)).1 h2, h3⟩, fun ⟨i, h1, h2, h3⟩ => ⟨i, h1, (hm _ (getD_mem h1)).2 h2, h3⟩⟩
  have hout : (outL b n (rowN a B E) b.inn.length).length = ((List.range b.inn.length).filter (canB b E)).length := by
    unfold outL
    rw [List.length_map]
    congr 1
    exact List.filter_congr fun j _ => hcan j
  have hfil : (rowN a B E).filter (fun t => !decide (t ∈ b.inn)) = (E.filter fun t => !decide (t ∈ a.inn) && !decide (t ∈ b.inn)) ++ outL a B E a.inn.length := by
    show ((E.filter fun t => !decide (t ∈ a.inn)) ++ outL a B E a.inn.length).filter _ = _
    rw [List.filter_append, List.filter_filter]
    congr 1
    · exact List.filter_congr fun t _ => Bool.and_comm _ _
    · refine List.filter_eq_self.2 fun t ht => ?_
      obtain ⟨j, _, e, _⟩ := mem_outL.1 ht
      have : t ∉ b.inn := fun h => by have := (hb t h).1; omega
      simpa using this
  show ((rowN a B E).filter (fun t => !decide (t ∈ b.inn)) ++ outL b n (rowN a B E) b.inn.length).length = _
  rw [List.length_append, hout, hfil, List.length_append]
  congr 2
  unfold outL
  rw [List.length_map]
theorem apart_len (hca : checkF (moreF f a) = 0) (hcb : checkF (moreF f b) = 0) (hab : checkF (moreF (moreF f a) b) = 0) {s : Nat} (hs : (s : Int) < f.senders) :
    (endS (moreF (moreF f a) b) s).length = (endS (moreF (moreF f b) a) s).length := by
  obtain ⟨hba, hd⟩ := apart_check hca hcb hab
  have ga := more_good hca
  have gb := more_good hcb
  rw [endS_more hab hs, endS_more hba hs, endS_more hca hs, endS_more hcb hs,
    rowN_len2 fun t ht => ⟨(gb.fr t ht).2.1, hd t ht⟩, rowN_len2 fun t ht => ⟨(ga.fr t ht).2.1, fun h => hd t h ht⟩]
  have e : (endS f s).filter (fun t => !decide (t ∈ a.inn) && !decide (t ∈ b.inn)) = (endS f s).filter (fun t => !decide (t ∈ b.inn) && !decide (t ∈ a.inn)) := List.filter_congr fun t _ => Bool.and_comm _ _
  rw [e]
  omega
end
end Go.Proofs.Ytnlaiaklafjamaa

