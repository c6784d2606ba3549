import Derived.Test.YtfmefdeldgmhpaaHA16
namespace Go.Proofs.Ytfmefdeldgmhpaa
set_option linter.unusedSimpArgs false
set_option linter.unusedVariables false
open Go.RowKit
set_option maxRecDepth 100000
set_option maxHeartbeats 8000000
theorem law8_B0 (l : List Ent) (person agent day time : Int) (ho : l.length ≤ 140737488351232 ∧ ∀ x ∈ l, OkE x) (v1 : validL l person day time = true) (v2 : validL l agent day time = true) (h22 : l.length ≤ 22) (hpa : person ≠ agent) (h0 : l.length = 0) (hsm : ¬ (noA l ≤ 1048576 ∧ day + 1 < 2097152 ∧ time + 1 < 2097152)) : Spec Try.prog 14 [aEs l, aI person, aI agent, aI day, aI time] (.r1 (aB true)) := by
  obtain ⟨hl, hk'⟩ := ho
  have hk := okE_kind hk'
  refine spec_of T_ok Try.func14 (by dsimp only [Try.f14]) rfl rfl (by simp) fun w F => ?_
  have hV1 := hvalid_spec l person day time hl
  have hV2 := hvalid_spec l agent day time hl
  rw [v1] at hV1
  rw [v2] at hV2
  have hf := fineL_of v1
  have hg := fineL_of v2
  have d1 : decide ((l.length : Int) > 22) = false := decide_eq_false (by omega)
  have d2 : (person == agent) = false := by rw [beq_eq_false_iff_ne]; exact hpa
  have hd0 := hf.d0
  have hd1 := hf.d1
  have ht0 := hf.t0
  have ht1 := hf.t1
  have w1 : IntKind.i64.wrap (day + 1) = day + 1 := av_w (by omega)
  have w2 : IntKind.i64.wrap (time + 1) = time + 1 := av_w (by omega)
  have hn0 : 0 ≤ noA l := (noA_gt hf.good).1
  have q1 : decide ((l.length : Int) > 0) = false := decide_eq_false (by omega)
  have q2 : noA l = 0 := by rw [noA, if_pos h0]
  obtain ⟨n, hn⟩ : ∃ n, n = noA l := ⟨_, rfl⟩
  rw [← hn] at hn0 q2 hsm
  have hd : (decide (n > 1048576) || decide (day + 1 ≥ 2097152) || decide (time + 1 ≥ 2097152)) = true := by
    rw [Bool.or_eq_true, Bool.or_eq_true, decide_eq_true_eq, decide_eq_true_eq, decide_eq_true_eq]; omega
  subst q2
  repeat' (first
    | (with_reducible refine aw_seq ?_)
    | ((with_reducible refine twoG_intro ?_ ?_) <;> intro hTw <;> first | (exact Bool.noConfusion hTw) | ((try simp only [hTw, Bool.not_true, Bool.not_false, Bool.true_and, Bool.false_and, Bool.and_true, Bool.and_false, Bool.true_or, Bool.false_or, Bool.or_true, Bool.or_false]); (first | (guard_hyp hTw : true = true; clear hTw) | (guard_hyp hTw : false = false; clear hTw) | (revert hTw; intro _))))
    | ((with_reducible refine two_intro ?_ ?_) <;> intro hTw <;> first | (exact Bool.noConfusion hTw) | ((first | (guard_hyp hTw : true = true; clear hTw) | (guard_hyp hTw : false = false; clear hTw) | (revert hTw; intro _))))
    | ((with_reducible refine And.intro ?_ ?_); (focus (first | exact eqHome | omega | rfl | decide | grind)))
    | (with_reducible refine aw_block ?_)
    | (with_reducible refine aw_scope ?_)
    | ((first
        | ((with_reducible refine aw_regionA T_ok ?_ ?_); (focus kernel_rfl))
        | ((with_reducible refine aw_drawnA T_ok ?_ ?_ ?_ ?_); (focus kernel_rfl); (focus kernel_rfl); (focus (decide +kernel)))
        | ((with_reducible refine aw_drawnF T_ok ?_ ?_ ?_ ?_); (focus kernel_rfl); (focus kernel_rfl); (focus (decide +kernel)))
        | ((with_reducible refine callK_intro (hsane_spec) (by with_unfolding_all rfl) ?_ ?_); (focus kernel_rfl))
        | ((with_reducible refine callI_spec (hsane_spec) (by with_unfolding_all rfl) ?_ ?_ ?_); (focus kernel_rfl); (focus kernel_rfl))
        | ((with_reducible refine callK_intro (hV1) (by with_unfolding_all rfl) ?_ ?_); (focus kernel_rfl))
        | ((with_reducible refine callI_spec (hV1) (by with_unfolding_all rfl) ?_ ?_ ?_); (focus kernel_rfl); (focus kernel_rfl))
        | ((with_reducible refine callK_intro (hV2) (by with_unfolding_all rfl) ?_ ?_); (focus kernel_rfl))
        | ((with_reducible refine callI_spec (hV2) (by with_unfolding_all rfl) ?_ ?_ ?_); (focus kernel_rfl); (focus kernel_rfl))
        | (with_reducible refine aw_label ?_)
        | ((with_reducible refine aw_rfM ?_ ?_); (focus kernel_rfl))
        | (with_reducible refine aw_skip ?_)
        | (with_reducible refine aw_exit ?_)
        | ((with_reducible refine aw_condM ?_ ?_); (focus kernel_rfl))
        | (with_reducible refine aw_ret ?_)
      ); simp only [↓avP, avQ, if_true, if_false, forall_const, beq_self_eq_true, eq_self, ne_eq, implies_true, reduceIte, Nat.reduceEqDiff, Nat.reduceAdd, Nat.reduceSub, Int.reduceToNat, Nat.reduceLeDiff, Nat.reduceLT, reduceCtorEq, Int.reduceEq, retQ, retL, resV, RetV, RetOk, SubL, entD_B, homD_B, intD_B, ty_39, ty_3, ty_22, ty_30, ty_4, ty_26, ty_5, d1, d2, q1, w1, w2, hd]; try simp (disch := omega) only [av_w, av_t1, av_tp, Int.toNat_natCast]))
  exact Sub.refl _
end Go.Proofs.Ytfmefdeldgmhpaa

