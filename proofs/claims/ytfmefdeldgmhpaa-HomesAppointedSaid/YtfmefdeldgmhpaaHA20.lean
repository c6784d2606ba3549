import Derived.Test.YtfmefdeldgmhpaaHA16
namespace Go.Proofs.Ytfmefdeldgmhpaa
set_option linter.unusedSimpArgs false
set_option linter.unusedVariables false
open Go.RowKit
set_option maxRecDepth 100000
set_option maxHeartbeats 8000000
theorem law8_D0 (l : List Ent) (person agent day time : Int) (ho : l.length ≤ 140737488351232 ∧ ∀ x ∈ l, OkE x) (v1 : validL l person day time = true) (v2 : validL l agent day time = true) (h22 : l.length ≤ 22) (hpa : person ≠ agent) (h0 : l.length = 0) (hsm : noA l ≤ 1048576 ∧ day + 1 < 2097152 ∧ time + 1 < 2097152) (hin : person ∉ agentsL l agent day time) (hb : 1 < (agentsL l (lastOf (agentsL l agent day time) agent) day time).length) : Spec Try.prog 14 [aEs l, aI person, aI agent, aI day, aI time] (.r1 (aB true)) := by
  obtain ⟨hl, hk'⟩ := ho
  have hk := okE_kind hk'
  refine spec_of T_ok Try.func14 (by dsimp only [Try.f14]) rfl rfl (by simp) fun w F => ?_
  have hV1 := hvalid_spec l person day time hl
  have hV2 := hvalid_spec l agent day time hl
  rw [v1] at hV1
  rw [v2] at hV2
  have hf := fineL_of v1
  have hg := fineL_of v2
  have d1 : decide ((l.length : Int) > 22) = false := decide_eq_false (by omega)
  have d2 : (person == agent) = false := by rw [beq_eq_false_iff_ne]; exact hpa
  have hd0 := hf.d0
  have hd1 := hf.d1
  have ht0 := hf.t0
  have ht1 := hf.t1
  have w1 : IntKind.i64.wrap (day + 1) = day + 1 := av_w (by omega)
  have w2 : IntKind.i64.wrap (time + 1) = time + 1 := av_w (by omega)
  have hn0 : 0 ≤ noA l := (noA_gt hf.good).1
  have q1 : decide ((l.length : Int) > 0) = false := decide_eq_false (by omega)
  have q2 : noA l = 0 := by rw [noA, if_pos h0]
  obtain ⟨n, hn⟩ : ∃ n, n = noA l := ⟨_, rfl⟩
  rw [← hn] at hn0 q2 hsm
  obtain ⟨m1, m2, m3⟩ := hsm
  have e1 : decide (n > 1048576) = false := decide_eq_false (by omega)
  have e2 : decide (day + 1 ≥ 2097152) = false := decide_eq_false (by omega)
  have e3 : decide (time + 1 ≥ 2097152) = false := decide_eq_false (by omega)
  have hO := app_all hf hg h22 hpa (by omega) m2 m3
  have hok := app_valid (no := n) ⟨hf.p0, hf.p1⟩ ⟨hg.p0, hg.p1⟩ ⟨hf.d0, m2⟩ ⟨hf.t0, m3⟩ hpa ⟨by omega, m1⟩
  have hR := app_err hf.good h22 (by rw [← hn]; exact hok)
  have hAdd := gadd_spec l (appE n person agent day time) hl hk (by show i64 2; exact ⟨by decide, by decide⟩)
  obtain ⟨o1, o2, o3, o4, o5, o6, o7, o8⟩ := hO
  rw [← hn] at hR o1 o3 o4 o7 o8
  rw [hR, o1] at hAdd
  obtain ⟨M, hM⟩ : ∃ M, M = l ++ [appE n person agent day time] := ⟨_, rfl⟩
  rw [← hM] at hAdd o3 o4 o7 o8
  have hMl : M.length = l.length + 1 := by rw [hM]; simp
  have hMk : ∀ k, i64 (M.getD k default).kind := kindsAt fun x hx => by
    rw [hM] at hx
    rcases List.mem_append.1 hx with hx | hx
    · exact (hk' x hx).kind
    · rw [List.mem_singleton.1 hx]; show i64 2; exact ⟨by decide, by decide⟩
  have hA := hagents_spec l agent day time hl hk
  have hW := hwhere_spec l agent day time hl hk
  rw [hg.errO] at hA hW
  have hW1 := hwhere_spec M person day time (by omega) hMk
  have hW2 := hwhere_spec M person day (time + 1) (by omega) hMk
  have hW3 := hwhere_spec l person day (time + 1) hl hk
  rw [o3] at hW1
  rw [o4, o7] at hW2
  rw [o5] at hW3
  have hlen := agentsL_len l agent day time hg.errO
  obtain ⟨A, hAe⟩ : ∃ A, A = agentsL l agent day time := ⟨_, rfl⟩
  obtain ⟨H, hHe⟩ : ∃ H, H = whereL l agent day time := ⟨_, rfl⟩
  obtain ⟨H3, hH3⟩ : ∃ H, H = whereL l person day (time + 1) := ⟨_, rfl⟩
  rw [← hAe] at hA hlen o2 o6 o8 hin hb
  rw [← hHe] at hW o8
  rw [← hH3] at hW2 hW3
  have hH := has_spec A person (by omega)
  have b1 : decide ((A.length : Int) > (l.length : Int) + 1) = false := decide_eq_false (by omega)
  have b2 : ((A.length : Int) == 0) = false := by
    have := List.length_pos_iff.2 o2
    rw [beq_eq_false_iff_ne]; omega
  have b3 : ((0 : Int) != 0) = false := rfl
  rw [decide_eq_false hin] at hH
  have o6 := o6 hin
  have o8 := o8 hin
  have hz := lastI A agent o2
  rw [← last_getD o2 agent] at o6 o8
  obtain ⟨z, hze⟩ : ∃ z, z = lastOf A agent := ⟨_, rfl⟩
  rw [← hze] at o6 o8 hz hb
  have hA2 := hagents_spec l z day time hl hk
  have hlen2 := agentsL_len l z day time o6
  rw [o6] at hA2
  obtain ⟨B, hB⟩ : ∃ B, B = agentsL l z day time := ⟨_, rfl⟩
  rw [← hB] at hA2 o8 hlen2 hb
  rw [o8] at hW1
  rw [← hz] at hA2
  have b4 : decide ((B.length : Int) > 1) = true := decide_eq_true (by omega)
  rw [if_pos hb] at hW1
  subst q2
  repeat' (first
    | (with_reducible refine aw_seq ?_)
    | ((with_reducible refine twoG_intro ?_ ?_) <;> intro hTw <;> first | (exact Bool.noConfusion hTw) | ((try simp only [hTw, Bool.not_true, Bool.not_false, Bool.true_and, Bool.false_and, Bool.and_true, Bool.and_false, Bool.true_or, Bool.false_or, Bool.or_true, Bool.or_false]); (first | (guard_hyp hTw : true = true; clear hTw) | (guard_hyp hTw : false = false; clear hTw) | (revert hTw; intro _))))
    | ((with_reducible refine two_intro ?_ ?_) <;> intro hTw <;> first | (exact Bool.noConfusion hTw) | ((first | (guard_hyp hTw : true = true; clear hTw) | (guard_hyp hTw : false = false; clear hTw) | (revert hTw; intro _))))
    | ((with_reducible refine And.intro ?_ ?_); (focus (first | exact eqHome | omega | rfl | decide | grind)))
    | (with_reducible refine aw_block ?_)
    | (with_reducible refine aw_scope ?_)
    | ((first
        | ((with_reducible refine aw_regionA T_ok ?_ ?_); (focus kernel_rfl))
        | ((with_reducible refine aw_drawnA T_ok ?_ ?_ ?_ ?_); (focus kernel_rfl); (focus kernel_rfl); (focus (decide +kernel)))
        | ((with_reducible refine aw_drawnF T_ok ?_ ?_ ?_ ?_); (focus kernel_rfl); (focus kernel_rfl); (focus (decide +kernel)))
        | ((with_reducible refine callK_intro (hsane_spec) (by with_unfolding_all rfl) ?_ ?_); (focus kernel_rfl))
        | ((with_reducible refine callI_spec (hsane_spec) (by with_unfolding_all rfl) ?_ ?_ ?_); (focus kernel_rfl); (focus kernel_rfl))
        | ((with_reducible refine callK_intro (hV1) (by with_unfolding_all rfl) ?_ ?_); (focus kernel_rfl))
        | ((with_reducible refine callI_spec (hV1) (by with_unfolding_all rfl) ?_ ?_ ?_); (focus kernel_rfl); (focus kernel_rfl))
        | ((with_reducible refine callK_intro (hV2) (by with_unfolding_all rfl) ?_ ?_); (focus kernel_rfl))
        | ((with_reducible refine callI_spec (hV2) (by with_unfolding_all rfl) ?_ ?_ ?_); (focus kernel_rfl); (focus kernel_rfl))
        | ((with_reducible refine callK_intro (hAdd) (by with_unfolding_all rfl) ?_ ?_); (focus kernel_rfl))
        | ((with_reducible refine callI_spec (hAdd) (by with_unfolding_all rfl) ?_ ?_ ?_); (focus kernel_rfl); (focus kernel_rfl))
        | ((with_reducible refine callK_intro (hA) (by with_unfolding_all rfl) ?_ ?_); (focus kernel_rfl))
        | ((with_reducible refine callI_spec (hA) (by with_unfolding_all rfl) ?_ ?_ ?_); (focus kernel_rfl); (focus kernel_rfl))
        | ((with_reducible refine callK_intro (hA2) (by with_unfolding_all rfl) ?_ ?_); (focus kernel_rfl))
        | ((with_reducible refine callI_spec (hA2) (by with_unfolding_all rfl) ?_ ?_ ?_); (focus kernel_rfl); (focus kernel_rfl))
        | ((with_reducible refine callK_intro (hW) (by with_unfolding_all rfl) ?_ ?_); (focus kernel_rfl))
        | ((with_reducible refine callI_spec (hW) (by with_unfolding_all rfl) ?_ ?_ ?_); (focus kernel_rfl); (focus kernel_rfl))
        | ((with_reducible refine callK_intro (hW1) (by with_unfolding_all rfl) ?_ ?_); (focus kernel_rfl))
        | ((with_reducible refine callI_spec (hW1) (by with_unfolding_all rfl) ?_ ?_ ?_); (focus kernel_rfl); (focus kernel_rfl))
        | ((with_reducible refine callK_intro (hW2) (by with_unfolding_all rfl) ?_ ?_); (focus kernel_rfl))
        | ((with_reducible refine callI_spec (hW2) (by with_unfolding_all rfl) ?_ ?_ ?_); (focus kernel_rfl); (focus kernel_rfl))
        | ((with_reducible refine callK_intro (hW3) (by with_unfolding_all rfl) ?_ ?_); (focus kernel_rfl))
        | ((with_reducible refine callI_spec (hW3) (by with_unfolding_all rfl) ?_ ?_ ?_); (focus kernel_rfl); (focus kernel_rfl))
        | ((with_reducible refine callK_intro (hH) (by with_unfolding_all rfl) ?_ ?_); (focus kernel_rfl))
        | ((with_reducible refine callI_spec (hH) (by with_unfolding_all rfl) ?_ ?_ ?_); (focus kernel_rfl); (focus kernel_rfl))
        | (with_reducible refine aw_label ?_)
        | ((with_reducible refine aw_rfM ?_ ?_); (focus kernel_rfl))
        | (with_reducible refine aw_skip ?_)
        | (with_reducible refine aw_exit ?_)
        | ((with_reducible refine aw_condM ?_ ?_); (focus kernel_rfl))
        | (with_reducible refine aw_ret ?_)
      ); simp only [↓avP, avQ, if_true, if_false, forall_const, beq_self_eq_true, eq_self, ne_eq, implies_true, reduceIte, Nat.reduceEqDiff, Nat.reduceAdd, Nat.reduceSub, Int.reduceToNat, Nat.reduceLeDiff, Nat.reduceLT, reduceCtorEq, Int.reduceEq, retQ, retL, resV, RetV, RetOk, SubL, entD_B, homD_B, intD_B, ty_39, ty_3, ty_22, ty_30, ty_4, ty_26, ty_5, d1, d2, q1, w1, w2, e1, e2, e3, b1, b2, b3, b4]; try simp (disch := omega) only [av_w, av_t1, av_tp, Int.toNat_natCast]))
  first | exact Sub.refl _ | exact Sub.of_eq (congrArg aB (by simp)) | done
end Go.Proofs.Ytfmefdeldgmhpaa

