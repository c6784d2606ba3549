import Derived.Test.YtfmefdeldgmhpaaHA16
namespace Go.Proofs.Ytfmefdeldgmhpaa
set_option linter.unusedSimpArgs false
set_option linter.unusedVariables false
open Go.RowKit
set_option maxRecDepth 100000
set_option maxHeartbeats 8000000
theorem law8_A (l : List Ent) (person agent day time : Int) (ho : l.length ≤ 140737488351232 ∧ ∀ x ∈ l, OkE x) (hg : ¬ (validL l person day time = true ∧ validL l agent day time = true ∧ l.length ≤ 22 ∧ person ≠ agent)) : Spec Try.prog 14 [aEs l, aI person, aI agent, aI day, aI time] (.r1 (aB true)) := by
  obtain ⟨hl, hk'⟩ := ho
  have hk := okE_kind hk'
  refine spec_of T_ok Try.func14 (by dsimp only [Try.f14]) rfl rfl (by simp) fun w F => ?_
  have hV1 := hvalid_spec l person day time hl
  have hV2 := hvalid_spec l agent day time hl
  have hd : (!validL l person day time || !validL l agent day time || decide ((l.length : Int) > 22) || (person == agent)) = true := by
    cases h1 : validL l person day time with
    | false => rfl
    | true =>
      cases h2 : validL l agent day time with
      | false => rfl
      | true =>
        by_cases h3 : l.length ≤ 22
        · have h4 : person = agent := Classical.byContradiction fun h4 => hg ⟨h1, h2, h3, h4⟩
          rw [show (person == agent) = true by simpa using h4]; simp
        · rw [decide_eq_true (show (l.length : Int) > 22 by omega)]; rfl
  obtain ⟨u1, hu1⟩ : ∃ u, u = validL l person day time := ⟨_, rfl⟩
  obtain ⟨u2, hu2⟩ : ∃ u, u = validL l agent day time := ⟨_, rfl⟩
  rw [← hu1] at hV1 hd
  rw [← hu2] at hV2 hd
  clear hu1 hu2 hg
  repeat' (first
    | (with_reducible refine aw_seq ?_)
    | ((with_reducible refine twoG_intro ?_ ?_) <;> intro hTw <;> first | (exact Bool.noConfusion hTw) | ((try simp only [hTw, Bool.not_true, Bool.not_false, Bool.true_and, Bool.false_and, Bool.and_true, Bool.and_false, Bool.true_or, Bool.false_or, Bool.or_true, Bool.or_false]); (first | (guard_hyp hTw : true = true; clear hTw) | (guard_hyp hTw : false = false; clear hTw) | (revert hTw; intro _))))
    | ((with_reducible refine two_intro ?_ ?_) <;> intro hTw <;> first | (exact Bool.noConfusion hTw) | ((first | (guard_hyp hTw : true = true; clear hTw) | (guard_hyp hTw : false = false; clear hTw) | (revert hTw; intro _))))
    | ((with_reducible refine And.intro ?_ ?_); (focus (first | exact eqHome | omega | rfl | decide | grind)))
    | (with_reducible refine aw_block ?_)
    | (with_reducible refine aw_scope ?_)
    | ((first
        | ((with_reducible refine aw_regionA T_ok ?_ ?_); (focus kernel_rfl))
        | ((with_reducible refine aw_drawnA T_ok ?_ ?_ ?_ ?_); (focus kernel_rfl); (focus kernel_rfl); (focus (decide +kernel)))
        | ((with_reducible refine aw_drawnF T_ok ?_ ?_ ?_ ?_); (focus kernel_rfl); (focus kernel_rfl); (focus (decide +kernel)))
        | ((with_reducible refine callK_intro (hsane_spec) (by with_unfolding_all rfl) ?_ ?_); (focus kernel_rfl))
        | ((with_reducible refine callI_spec (hsane_spec) (by with_unfolding_all rfl) ?_ ?_ ?_); (focus kernel_rfl); (focus kernel_rfl))
        | ((with_reducible refine callK_intro (hV1) (by with_unfolding_all rfl) ?_ ?_); (focus kernel_rfl))
        | ((with_reducible refine callI_spec (hV1) (by with_unfolding_all rfl) ?_ ?_ ?_); (focus kernel_rfl); (focus kernel_rfl))
        | ((with_reducible refine callK_intro (hV2) (by with_unfolding_all rfl) ?_ ?_); (focus kernel_rfl))
        | ((with_reducible refine callI_spec (hV2) (by with_unfolding_all rfl) ?_ ?_ ?_); (focus kernel_rfl); (focus kernel_rfl))
        | (with_reducible refine aw_label ?_)
        | ((with_reducible refine aw_rfM ?_ ?_); (focus kernel_rfl))
        | (with_reducible refine aw_skip ?_)
        | (with_reducible refine aw_exit ?_)
        | ((with_reducible refine aw_condM ?_ ?_); (focus kernel_rfl))
        | (with_reducible refine aw_ret ?_)
      ); simp only [↓avP, avQ, if_true, if_false, forall_const, beq_self_eq_true, eq_self, ne_eq, implies_true, reduceIte, Nat.reduceEqDiff, Nat.reduceAdd, Nat.reduceSub, Int.reduceToNat, Nat.reduceLeDiff, Nat.reduceLT, reduceCtorEq, Int.reduceEq, retQ, retL, resV, RetV, RetOk, SubL, entD_B, homD_B, intD_B, ty_39, ty_3, ty_22, ty_30, ty_4, ty_26, ty_5, hd]; try simp (disch := omega) only [av_w, av_t1, av_tp, Int.toNat_natCast]))
  exact Sub.refl _
end Go.Proofs.Ytfmefdeldgmhpaa

