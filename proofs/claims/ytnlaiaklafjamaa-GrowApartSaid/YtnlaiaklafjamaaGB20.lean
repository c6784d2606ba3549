import Derived.Test.YtnlaiaklafjamaaGB17
import Derived.Test.YtnlaiaklafjamaaGB19
namespace Go.Proofs.Ytnlaiaklafjamaa
set_option linter.unusedSimpArgs false
set_option linter.unusedVariables false
open Go.RowKit
set_option maxRecDepth 100000
set_option maxHeartbeats 8000000
theorem glaw5_spec (f : FlowP) (a b : LotP) (hf : OkF f) (ha : OkL a) (hb : OkL b) : Spec Try.prog 7 [.agg (flowD f), .agg (lotD a), .agg (lotD b)] (.r1 (aB true)) := by
  refine spec_of T_ok Try.func7 (by dsimp only [Try.f7]) rfl rfl (by simp) fun w F => ?_
  have hG := gright_spec f hf
  have hai := ha.li
  have hap := ha.lp
  have hbi := hb.li
  have hbp := hb.lp
  cases hu : rightU f with
  | false =>
    rw [hu] at hG
    repeat' (first
      | (with_reducible refine aw_seq ?_)
      | ((with_reducible refine twoG_intro ?_ ?_) <;> intro hTw <;> first | (exact Bool.noConfusion hTw) | ((try simp only [hTw, Bool.not_true, Bool.not_false, Bool.true_and, Bool.false_and, Bool.and_true, Bool.and_false, Bool.true_or, Bool.false_or, Bool.or_true, Bool.or_false]); (first | (guard_hyp hTw : true = true; clear hTw) | (guard_hyp hTw : false = false; clear hTw) | (revert hTw; intro _))))
      | ((with_reducible refine two_intro ?_ ?_) <;> intro hTw <;> first | (exact Bool.noConfusion hTw) | ((first | (guard_hyp hTw : true = true; clear hTw) | (guard_hyp hTw : false = false; clear hTw) | (revert hTw; intro _))))
      | ((with_reducible refine And.intro ?_ ?_); (focus (first | omega | rfl | decide | grind)))
      | (with_reducible refine aw_block ?_)
      | (with_reducible refine aw_scope ?_)
      | ((first
          | ((with_reducible refine aw_regionA T_ok ?_ ?_); (focus kernel_rfl))
          | ((with_reducible refine aw_drawnA T_ok ?_ ?_ ?_ ?_); (focus kernel_rfl); (focus kernel_rfl); (focus (decide +kernel)))
          | ((with_reducible refine aw_drawnF T_ok ?_ ?_ ?_ ?_); (focus kernel_rfl); (focus kernel_rfl); (focus (decide +kernel)))
          | ((with_reducible refine callK_intro (gsane30_spec) (by with_unfolding_all rfl) ?_ ?_); (focus kernel_rfl))
          | ((with_reducible refine callI_spec (gsane30_spec) (by with_unfolding_all rfl) ?_ ?_ ?_); (focus kernel_rfl); (focus kernel_rfl))
          | ((with_reducible refine callK_intro (hG) (by with_unfolding_all rfl) ?_ ?_); (focus kernel_rfl))
          | ((with_reducible refine callI_spec (hG) (by with_unfolding_all rfl) ?_ ?_ ?_); (focus kernel_rfl); (focus kernel_rfl))
          | ((with_reducible refine callK_skip (.r1 (aI 0)) (by with_unfolding_all rfl) ?_ ?_); (focus kernel_rfl))
          | (with_reducible refine aw_label ?_)
          | ((with_reducible refine aw_rfM ?_ ?_); (focus kernel_rfl))
          | (with_reducible refine aw_skip ?_)
          | (with_reducible refine aw_exit ?_)
          | ((with_reducible refine aw_condM ?_ ?_); (focus kernel_rfl))
          | (with_reducible refine aw_ret ?_)
        ); simp only [↓avP, avQ, if_true, if_false, forall_const, beq_self_eq_true, eq_self, ne_eq, implies_true, reduceIte, Nat.reduceEqDiff, Nat.reduceAdd, Nat.reduceSub, Int.reduceToNat, Nat.reduceLeDiff, Nat.reduceLT, reduceCtorEq, Int.reduceEq, retQ, retL, resV, RetV, RetOk, SubL, intD_B, lotD_B, flowD_B, seenD_B, snocI, snocL, seen_take2, seen_take1, seen_drop3, ty_3, ty_28, ty_4, ty_24, ty_30, ty_22, ty_25, ty_27, issD_get]; try simp (disch := omega) only [av_w, av_t1, av_tp, Int.toNat_natCast]))
    exact Sub.refl _
  | true =>
  obtain ⟨_, hl10, hc⟩ := rightU_iff.1 hu
  rw [hu, show rightS f = ⟨f, matR f⟩ by rw [rightS, hu]; rfl] at hG
  obtain ⟨z1, z2, z3, z4, z5⟩ := checkF_zero hc
  have hma : OkF (moreF f a) := hf.more ha (by omega)
  have hmb : OkF (moreF f b) := hf.more hb (by omega)
  have hmab : OkF (moreF (moreF f a) b) := hma.more hb (by rw [more_len]; omega)
  by_cases hsz : a.inn.length ≤ 12 ∧ a.perm.length ≤ 12 ∧ b.inn.length ≤ 12 ∧ b.perm.length ≤ 12
  rotate_left
  · have hd : (decide ((a.inn.length : Int) > 12) || decide ((a.perm.length : Int) > 12) || decide ((b.inn.length : Int) > 12) || decide ((b.perm.length : Int) > 12)) = true := by
      rw [Bool.or_eq_true, Bool.or_eq_true, Bool.or_eq_true, decide_eq_true_eq, decide_eq_true_eq, decide_eq_true_eq, decide_eq_true_eq]
      apply Classical.byContradiction
      intro h
      exact hsz ⟨by omega, by omega, by omega, by omega⟩
    repeat' (first
      | (with_reducible refine aw_seq ?_)
      | ((with_reducible refine twoG_intro ?_ ?_) <;> intro hTw <;> first | (exact Bool.noConfusion hTw) | ((try simp only [hTw, Bool.not_true, Bool.not_false, Bool.true_and, Bool.false_and, Bool.and_true, Bool.and_false, Bool.true_or, Bool.false_or, Bool.or_true, Bool.or_false]); (first | (guard_hyp hTw : true = true; clear hTw) | (guard_hyp hTw : false = false; clear hTw) | (revert hTw; intro _))))
      | ((with_reducible refine two_intro ?_ ?_) <;> intro hTw <;> first | (exact Bool.noConfusion hTw) | ((first | (guard_hyp hTw : true = true; clear hTw) | (guard_hyp hTw : false = false; clear hTw) | (revert hTw; intro _))))
      | ((with_reducible refine And.intro ?_ ?_); (focus (first | omega | rfl | decide | grind)))
      | (with_reducible refine aw_block ?_)
      | (with_reducible refine aw_scope ?_)
      | ((first
          | ((with_reducible refine aw_regionA T_ok ?_ ?_); (focus kernel_rfl))
          | ((with_reducible refine aw_drawnA T_ok ?_ ?_ ?_ ?_); (focus kernel_rfl); (focus kernel_rfl); (focus (decide +kernel)))
          | ((with_reducible refine aw_drawnF T_ok ?_ ?_ ?_ ?_); (focus kernel_rfl); (focus kernel_rfl); (focus (decide +kernel)))
          | ((with_reducible refine callK_intro (gsane30_spec) (by with_unfolding_all rfl) ?_ ?_); (focus kernel_rfl))
          | ((with_reducible refine callI_spec (gsane30_spec) (by with_unfolding_all rfl) ?_ ?_ ?_); (focus kernel_rfl); (focus kernel_rfl))
          | ((with_reducible refine callK_intro (hG) (by with_unfolding_all rfl) ?_ ?_); (focus kernel_rfl))
          | ((with_reducible refine callI_spec (hG) (by with_unfolding_all rfl) ?_ ?_ ?_); (focus kernel_rfl); (focus kernel_rfl))
          | (with_reducible refine aw_label ?_)
          | ((with_reducible refine aw_rfM ?_ ?_); (focus kernel_rfl))
          | (with_reducible refine aw_skip ?_)
          | (with_reducible refine aw_exit ?_)
          | ((with_reducible refine aw_condM ?_ ?_); (focus kernel_rfl))
          | (with_reducible refine aw_ret ?_)
        ); simp only [↓avP, avQ, if_true, if_false, forall_const, beq_self_eq_true, eq_self, ne_eq, implies_true, reduceIte, Nat.reduceEqDiff, Nat.reduceAdd, Nat.reduceSub, Int.reduceToNat, Nat.reduceLeDiff, Nat.reduceLT, reduceCtorEq, Int.reduceEq, retQ, retL, resV, RetV, RetOk, SubL, intD_B, lotD_B, flowD_B, seenD_B, snocI, snocL, seen_take2, seen_take1, seen_drop3, ty_3, ty_28, ty_4, ty_24, ty_30, ty_22, ty_25, ty_27, issD_get, hd]; try simp (disch := omega) only [av_w, av_t1, av_tp, Int.toNat_natCast]))
    exact Sub.refl _
  obtain ⟨s1, s2, s3, s4⟩ := hsz
  have g1 : decide ((a.inn.length : Int) > 12) = false := decide_eq_false (by omega)
  have g2 : decide ((a.perm.length : Int) > 12) = false := decide_eq_false (by omega)
  have g3 : decide ((b.inn.length : Int) > 12) = false := decide_eq_false (by omega)
  have g4 : decide ((b.perm.length : Int) > 12) = false := decide_eq_false (by omega)
  have hWa := qgwith_spec f a (by omega)
  have hWb := qgwith_spec f b (by omega)
  have hWab := qgwith_spec (moreF f a) b (by rw [more_len]; omega)
  have hCa := qfcheck_spec (moreF f a) hma
  have hCb := qfcheck_spec (moreF f b) hmb
  have hCab := qfcheck_spec (moreF (moreF f a) b) hmab
  by_cases hgood : checkF (moreF f a) = 0 ∧ checkF (moreF f b) = 0 ∧ checkF (moreF (moreF f a) b) = 0
  rotate_left
  · have hd : (checkF (moreF f a) != 0 || checkF (moreF f b) != 0 || checkF (moreF (moreF f a) b) != 0) = true := by
      rw [Bool.or_eq_true, Bool.or_eq_true, bne_iff_ne, bne_iff_ne, bne_iff_ne]
      apply Classical.byContradiction
      intro h
      exact hgood ⟨by omega, by omega, by omega⟩
    obtain ⟨ea, hea⟩ : ∃ e, e = checkF (moreF f a) := ⟨_, rfl⟩
    obtain ⟨eb, heb⟩ : ∃ e, e = checkF (moreF f b) := ⟨_, rfl⟩
    obtain ⟨eab, heab⟩ : ∃ e, e = checkF (moreF (moreF f a) b) := ⟨_, rfl⟩
    rw [← hea, ← heb, ← heab] at hd
    rw [← hea] at hCa
    rw [← heb] at hCb
    rw [← heab] at hCab
    obtain ⟨gab, hgab⟩ : ∃ g, g = moreF (moreF f a) b := ⟨_, rfl⟩
    rw [← hgab] at hWab hCab
    obtain ⟨ga, hga⟩ : ∃ g, g = moreF f a := ⟨_, rfl⟩
    rw [← hga] at hWa hCa hWab
    obtain ⟨gb, hgb⟩ : ∃ g, g = moreF f b := ⟨_, rfl⟩
    rw [← hgb] at hWb hCb
    clear hea heb heab hgab hga hgb
    repeat' (first
      | (with_reducible refine aw_seq ?_)
      | ((with_reducible refine twoG_intro ?_ ?_) <;> intro hTw <;> first | (exact Bool.noConfusion hTw) | ((try simp only [hTw, Bool.not_true, Bool.not_false, Bool.true_and, Bool.false_and, Bool.and_true, Bool.and_false, Bool.true_or, Bool.false_or, Bool.or_true, Bool.or_false]); (first | (guard_hyp hTw : true = true; clear hTw) | (guard_hyp hTw : false = false; clear hTw) | (revert hTw; intro _))))
      | ((with_reducible refine two_intro ?_ ?_) <;> intro hTw <;> first | (exact Bool.noConfusion hTw) | ((first | (guard_hyp hTw : true = true; clear hTw) | (guard_hyp hTw : false = false; clear hTw) | (revert hTw; intro _))))
      | ((with_reducible refine And.intro ?_ ?_); (focus (first | omega | rfl | decide | grind)))
      | (with_reducible refine aw_block ?_)
      | (with_reducible refine aw_scope ?_)
      | ((first
          | ((with_reducible refine aw_regionA T_ok ?_ ?_); (focus kernel_rfl))
          | ((with_reducible refine aw_drawnA T_ok ?_ ?_ ?_ ?_); (focus kernel_rfl); (focus kernel_rfl); (focus (decide +kernel)))
          | ((with_reducible refine aw_drawnF T_ok ?_ ?_ ?_ ?_); (focus kernel_rfl); (focus kernel_rfl); (focus (decide +kernel)))
          | ((with_reducible refine callK_intro (gsane30_spec) (by with_unfolding_all rfl) ?_ ?_); (focus kernel_rfl))
          | ((with_reducible refine callI_spec (gsane30_spec) (by with_unfolding_all rfl) ?_ ?_ ?_); (focus kernel_rfl); (focus kernel_rfl))
          | ((with_reducible refine callK_intro (hG) (by with_unfolding_all rfl) ?_ ?_); (focus kernel_rfl))
          | ((with_reducible refine callI_spec (hG) (by with_unfolding_all rfl) ?_ ?_ ?_); (focus kernel_rfl); (focus kernel_rfl))
          | ((with_reducible refine callK_intro (hWa) (by with_unfolding_all rfl) ?_ ?_); (focus kernel_rfl))
          | ((with_reducible refine callI_spec (hWa) (by with_unfolding_all rfl) ?_ ?_ ?_); (focus kernel_rfl); (focus kernel_rfl))
          | ((with_reducible refine callK_intro (hWb) (by with_unfolding_all rfl) ?_ ?_); (focus kernel_rfl))
          | ((with_reducible refine callI_spec (hWb) (by with_unfolding_all rfl) ?_ ?_ ?_); (focus kernel_rfl); (focus kernel_rfl))
          | ((with_reducible refine callK_intro (hWab) (by with_unfolding_all rfl) ?_ ?_); (focus kernel_rfl))
          | ((with_reducible refine callI_spec (hWab) (by with_unfolding_all rfl) ?_ ?_ ?_); (focus kernel_rfl); (focus kernel_rfl))
          | ((with_reducible refine callK_intro (hCa) (by with_unfolding_all rfl) ?_ ?_); (focus kernel_rfl))
          | ((with_reducible refine callI_spec (hCa) (by with_unfolding_all rfl) ?_ ?_ ?_); (focus kernel_rfl); (focus kernel_rfl))
          | ((with_reducible refine callK_intro (hCb) (by with_unfolding_all rfl) ?_ ?_); (focus kernel_rfl))
          | ((with_reducible refine callI_spec (hCb) (by with_unfolding_all rfl) ?_ ?_ ?_); (focus kernel_rfl); (focus kernel_rfl))
          | ((with_reducible refine callK_intro (hCab) (by with_unfolding_all rfl) ?_ ?_); (focus kernel_rfl))
          | ((with_reducible refine callI_spec (hCab) (by with_unfolding_all rfl) ?_ ?_ ?_); (focus kernel_rfl); (focus kernel_rfl))
          | (with_reducible refine aw_label ?_)
          | ((with_reducible refine aw_rfM ?_ ?_); (focus kernel_rfl))
          | (with_reducible refine aw_skip ?_)
          | (with_reducible refine aw_exit ?_)
          | ((with_reducible refine aw_condM ?_ ?_); (focus kernel_rfl))
          | (with_reducible refine aw_ret ?_)
        ); simp only [↓avP, avQ, if_true, if_false, forall_const, beq_self_eq_true, eq_self, ne_eq, implies_true, reduceIte, Nat.reduceEqDiff, Nat.reduceAdd, Nat.reduceSub, Int.reduceToNat, Nat.reduceLeDiff, Nat.reduceLT, reduceCtorEq, Int.reduceEq, retQ, retL, resV, RetV, RetOk, SubL, intD_B, lotD_B, flowD_B, seenD_B, snocI, snocL, seen_take2, seen_take1, seen_drop3, ty_3, ty_28, ty_4, ty_24, ty_30, ty_22, ty_25, ty_27, issD_get, g1, g2, g3, g4, hd]; try simp (disch := omega) only [av_w, av_t1, av_tp, Int.toNat_natCast]))
    exact Sub.refl _
  obtain ⟨hca, hcb, hcab⟩ := hgood
  obtain ⟨hcba, _⟩ := apart_check hca hcb hcab
  obtain ⟨N, hN⟩ : ∃ N : Nat, f.senders = N := ⟨f.senders.toNat, by omega⟩
  have hA1 := add_good hf ha hc hca hN
  have hA2 := add_good hma hb hca hcab hN
  have hA3 := add_good hf hb hc hcb hN
  have hA4 := add_good hmb ha hcb hcba hN
  have hRab := matR_N hcab (f := moreF (moreF f a) b) hN
  have hRba := matR_N hcba (f := moreF (moreF f b) a) hN
  have hlab : (matR (moreF (moreF f a) b)).length = N := by rw [hRab]; exact matA_len _ N
  have hlba : (matR (moreF (moreF f b) a)).length = N := by rw [hRba]; exact matA_len _ N
  have hget : ∀ {i : Nat}, i < N → ∃ E1 E2 : List Int, (matR (moreF (moreF f a) b)).getD i [] = E1 ∧ (matR (moreF (moreF f b) a)).getD i [] = E2 ∧ E1.length = E2.length ∧ E1.length ≤ 50000 := fun {i} h =>
    ⟨endS (moreF (moreF f a) b) i, endS (moreF (moreF f b) a) i, by rw [hRab]; exact matA_get h, by rw [hRba]; exact matA_get h, apart_len hca hcb hcab (by omega), endS_len hcab _⟩
  have g5 : ((N : Int) != (N : Int)) = false := by simp
  rw [hca] at hCa
  rw [hcb] at hCb
  rw [hcab] at hCab
  clear hca hcb hcab hcba hRab hRba hmab hma hmb
  obtain ⟨Gab, hGab⟩ : ∃ G, G = moreF (moreF f a) b := ⟨_, rfl⟩
  obtain ⟨Gba, hGba⟩ : ∃ G, G = moreF (moreF f b) a := ⟨_, rfl⟩
  simp only [← hGab, ← hGba] at hA2 hA4 hWab hCab hget hlab hlba
  obtain ⟨Ga, hGa⟩ : ∃ G, G = moreF f a := ⟨_, rfl⟩
  obtain ⟨Gb, hGb⟩ : ∃ G, G = moreF f b := ⟨_, rfl⟩
  simp only [← hGa, ← hGb] at hA1 hA2 hA3 hA4 hWa hWb hWab hCa hCb
  obtain ⟨Rab, hRab⟩ : ∃ R, R = matR Gab := ⟨_, rfl⟩
  obtain ⟨Rba, hRba⟩ : ∃ R, R = matR Gba := ⟨_, rfl⟩
  simp only [← hRab, ← hRba] at hA2 hA4 hget hlab hlba
  obtain ⟨Ra, hRa⟩ : ∃ R, R = matR Ga := ⟨_, rfl⟩
  obtain ⟨Rb, hRb⟩ : ∃ R, R = matR Gb := ⟨_, rfl⟩
  obtain ⟨R, hR⟩ : ∃ R, R = matR f := ⟨_, rfl⟩
  simp only [← hRa, ← hRb, ← hR] at hA1 hA2 hA3 hA4 hG
  obtain ⟨c1, hc1⟩ : ∃ c, c = chgL f a N := ⟨_, rfl⟩
  obtain ⟨c2, hc2⟩ : ∃ c, c = chgL Ga b N := ⟨_, rfl⟩
  obtain ⟨c3, hc3⟩ : ∃ c, c = chgL f b N := ⟨_, rfl⟩
  obtain ⟨c4, hc4⟩ : ∃ c, c = chgL Gb a N := ⟨_, rfl⟩
  simp only [← hc1, ← hc2, ← hc3, ← hc4] at hA1 hA2 hA3 hA4
  clear hGab hGba hGa hGb hRab hRba hRa hRb hR hc1 hc2 hc3 hc4
  repeat' (first
    | (with_reducible refine aw_seq ?_)
    | ((with_reducible refine twoG_intro ?_ ?_) <;> intro hTw <;> first | (exact Bool.noConfusion hTw) | ((try simp only [hTw, Bool.not_true, Bool.not_false, Bool.true_and, Bool.false_and, Bool.and_true, Bool.and_false, Bool.true_or, Bool.false_or, Bool.or_true, Bool.or_false]); (first | (guard_hyp hTw : true = true; clear hTw) | (guard_hyp hTw : false = false; clear hTw) | (revert hTw; intro _))))
    | ((with_reducible refine two_intro ?_ ?_) <;> intro hTw <;> first | (exact Bool.noConfusion hTw) | ((first | (guard_hyp hTw : true = true; clear hTw) | (guard_hyp hTw : false = false; clear hTw) | (revert hTw; intro _))))
    | ((with_reducible refine And.intro ?_ ?_); (focus (first | omega | rfl | decide | grind)))
    | (with_reducible refine aw_block ?_)
    | (with_reducible refine aw_scope ?_)
    | ((first
        | ((with_reducible refine aw_regionA T_ok ?_ ?_); (focus kernel_rfl))
        | ((with_reducible refine aw_drawnA T_ok ?_ ?_ ?_ ?_); (focus kernel_rfl); (focus kernel_rfl); (focus (decide +kernel)))
        | ((with_reducible refine aw_drawnF T_ok ?_ ?_ ?_ ?_); (focus kernel_rfl); (focus kernel_rfl); (focus (decide +kernel)))
        | ((with_reducible refine callK_intro (gsane30_spec) (by with_unfolding_all rfl) ?_ ?_); (focus kernel_rfl))
        | ((with_reducible refine callI_spec (gsane30_spec) (by with_unfolding_all rfl) ?_ ?_ ?_); (focus kernel_rfl); (focus kernel_rfl))
        | ((with_reducible refine callK_intro (hG) (by with_unfolding_all rfl) ?_ ?_); (focus kernel_rfl))
        | ((with_reducible refine callI_spec (hG) (by with_unfolding_all rfl) ?_ ?_ ?_); (focus kernel_rfl); (focus kernel_rfl))
        | ((with_reducible refine callK_intro (hWa) (by with_unfolding_all rfl) ?_ ?_); (focus kernel_rfl))
        | ((with_reducible refine callI_spec (hWa) (by with_unfolding_all rfl) ?_ ?_ ?_); (focus kernel_rfl); (focus kernel_rfl))
        | ((with_reducible refine callK_intro (hWb) (by with_unfolding_all rfl) ?_ ?_); (focus kernel_rfl))
        | ((with_reducible refine callI_spec (hWb) (by with_unfolding_all rfl) ?_ ?_ ?_); (focus kernel_rfl); (focus kernel_rfl))
        | ((with_reducible refine callK_intro (hWab) (by with_unfolding_all rfl) ?_ ?_); (focus kernel_rfl))
        | ((with_reducible refine callI_spec (hWab) (by with_unfolding_all rfl) ?_ ?_ ?_); (focus kernel_rfl); (focus kernel_rfl))
        | ((with_reducible refine callK_intro (hCa) (by with_unfolding_all rfl) ?_ ?_); (focus kernel_rfl))
        | ((with_reducible refine callI_spec (hCa) (by with_unfolding_all rfl) ?_ ?_ ?_); (focus kernel_rfl); (focus kernel_rfl))
        | ((with_reducible refine callK_intro (hCb) (by with_unfolding_all rfl) ?_ ?_); (focus kernel_rfl))
        | ((with_reducible refine callI_spec (hCb) (by with_unfolding_all rfl) ?_ ?_ ?_); (focus kernel_rfl); (focus kernel_rfl))
        | ((with_reducible refine callK_intro (hCab) (by with_unfolding_all rfl) ?_ ?_); (focus kernel_rfl))
        | ((with_reducible refine callI_spec (hCab) (by with_unfolding_all rfl) ?_ ?_ ?_); (focus kernel_rfl); (focus kernel_rfl))
        | ((with_reducible refine callK_intro (hA1) (by with_unfolding_all rfl) ?_ ?_); (focus kernel_rfl))
        | ((with_reducible refine callI_spec (hA1) (by with_unfolding_all rfl) ?_ ?_ ?_); (focus kernel_rfl); (focus kernel_rfl))
        | ((with_reducible refine callK_intro (hA2) (by with_unfolding_all rfl) ?_ ?_); (focus kernel_rfl))
        | ((with_reducible refine callI_spec (hA2) (by with_unfolding_all rfl) ?_ ?_ ?_); (focus kernel_rfl); (focus kernel_rfl))
        | ((with_reducible refine callK_intro (hA3) (by with_unfolding_all rfl) ?_ ?_); (focus kernel_rfl))
        | ((with_reducible refine callI_spec (hA3) (by with_unfolding_all rfl) ?_ ?_ ?_); (focus kernel_rfl); (focus kernel_rfl))
        | ((with_reducible refine callK_intro (hA4) (by with_unfolding_all rfl) ?_ ?_); (focus kernel_rfl))
        | ((with_reducible refine callI_spec (hA4) (by with_unfolding_all rfl) ?_ ?_ ?_); (focus kernel_rfl); (focus kernel_rfl))
        | (with_reducible refine aw_label ?_)
        | ((with_reducible refine aw_rfM ?_ ?_); (focus kernel_rfl))
        | (with_reducible refine aw_skip ?_)
        | (with_reducible refine aw_exit ?_)
        | ((with_reducible refine aw_condM ?_ ?_); (focus kernel_rfl))
        | (with_reducible refine aw_ret ?_)
      ); simp only [↓avP, avQ, if_true, if_false, forall_const, beq_self_eq_true, eq_self, ne_eq, implies_true, reduceIte, Nat.reduceEqDiff, Nat.reduceAdd, Nat.reduceSub, Int.reduceToNat, Nat.reduceLeDiff, Nat.reduceLT, reduceCtorEq, Int.reduceEq, retQ, retL, resV, RetV, RetOk, SubL, intD_B, lotD_B, flowD_B, seenD_B, snocI, snocL, seen_take2, seen_take1, seen_drop3, ty_3, ty_28, ty_4, ty_24, ty_30, ty_22, ty_25, ty_27, issD_get, g1, g2, g3, g4, hlab, hlba, g5]; try simp (disch := omega) only [av_w, av_t1, av_tp, Int.toNat_natCast]))
  refine aw_loopI (fun i : Nat => ⟨[(13, .ptr 0 0), (19, .ptr 1 0), (136, vI N), (137, vI i)],
      [(1, .cells 27 (dV (seenD ⟨Gba, Rba⟩))), (0, .cells 27 (dV (seenD ⟨Gab, Rab⟩)))], 2⟩)
    (fun i => i ≤ N) (fun i => N - i) 0 (Nat.zero_le _) (wk_of [(0, some 26), (1, some 28)] rfl rfl ?_ ?_) ?_
  · simp only [wkT, wkB, wkB1, subV, subVs, subD, subB, lkN_n, lkN_c, lkT_n, lkT_c, lkB_n, lkB_c, if_true, if_false, reduceIte, Nat.reduceEqDiff, true_and, and_true, and_self, inT, ofA]
    (repeat' (first | exact trivial | rfl | exact rfl | exact subVs_d _ _ | exact subVs_dm _ _ | exact subD_refl _ | refine And.intro ?_ ?_))
  · simp only [wkT, wkB, wkB1, subV, subVs, subD, subB, lkN_n, lkN_c, lkT_n, lkT_c, lkB_n, lkB_c, if_true, if_false, reduceIte, Nat.reduceEqDiff, true_and, and_true, and_self, inT, ofA]
    (repeat' (first | exact trivial | rfl | exact rfl | exact subVs_d _ _ | exact subVs_dm _ _ | exact subD_refl _ | refine And.intro ?_ ?_))
  intro i hi
  rcases Nat.lt_or_ge i N with hil | hig
  · have hd3 : decide ((i : Int) < (N : Int)) = true := ltd hil
    obtain ⟨E1, E2, q1, q2, q3, q4⟩ := hget hil
    have g6 : ((E1.length : Int) != (E2.length : Int)) = false := by rw [bne_eq_false_iff_eq]; omega
    repeat' (first
      | (with_reducible refine aw_seq ?_)
      | ((with_reducible refine twoG_intro ?_ ?_) <;> intro hTw <;> first | (exact Bool.noConfusion hTw) | ((try simp only [hTw, Bool.not_true, Bool.not_false, Bool.true_and, Bool.false_and, Bool.and_true, Bool.and_false, Bool.true_or, Bool.false_or, Bool.or_true, Bool.or_false]); (first | (guard_hyp hTw : true = true; clear hTw) | (guard_hyp hTw : false = false; clear hTw) | (revert hTw; intro _))))
      | ((with_reducible refine two_intro ?_ ?_) <;> intro hTw <;> first | (exact Bool.noConfusion hTw) | ((first | (guard_hyp hTw : true = true; clear hTw) | (guard_hyp hTw : false = false; clear hTw) | (revert hTw; intro _))))
      | ((with_reducible refine And.intro ?_ ?_); (focus (first | omega | rfl | decide | grind)))
      | (with_reducible refine aw_block ?_)
      | (with_reducible refine aw_scope ?_)
      | ((first
          | ((with_reducible refine aw_regionA T_ok ?_ ?_); (focus kernel_rfl))
          | ((with_reducible refine aw_drawnA T_ok ?_ ?_ ?_ ?_); (focus kernel_rfl); (focus kernel_rfl); (focus (decide +kernel)))
          | ((with_reducible refine aw_drawnF T_ok ?_ ?_ ?_ ?_); (focus kernel_rfl); (focus kernel_rfl); (focus (decide +kernel)))
          | (with_reducible refine aw_label ?_)
          | ((with_reducible refine aw_rfM ?_ ?_); (focus kernel_rfl))
          | (with_reducible refine aw_skip ?_)
          | (with_reducible refine aw_exit ?_)
          | ((with_reducible refine aw_condM ?_ ?_); (focus kernel_rfl))
          | (with_reducible refine aw_ret ?_)
        ); simp only [↓avP, avQ, if_true, if_false, forall_const, beq_self_eq_true, eq_self, ne_eq, implies_true, reduceIte, Nat.reduceEqDiff, Nat.reduceAdd, Nat.reduceSub, Int.reduceToNat, Nat.reduceLeDiff, Nat.reduceLT, reduceCtorEq, Int.reduceEq, retQ, retL, resV, RetV, RetOk, SubL, intD_B, lotD_B, flowD_B, seenD_B, snocI, snocL, seen_take2, seen_take1, seen_drop3, ty_3, ty_28, ty_4, ty_24, ty_30, ty_22, ty_25, ty_27, issD_get, hd3, hlab, hlba, q1, q2, g6]; try simp (disch := omega) only [av_w, av_t1, av_tp, Int.toNat_natCast]))
    refine ⟨i + 1, by omega, by dsimp only; omega, wk_of [(0, some 0), (1, some 1)] rfl rfl ?_ ?_⟩
    · simp only [wkT, wkB, wkB1, subV, subVs, subD, subB, lkN_n, lkN_c, lkT_n, lkT_c, lkB_n, lkB_c, if_true, if_false, reduceIte, Nat.reduceEqDiff, true_and, and_true, and_self, inT, ofA]
      (repeat' (first | exact trivial | rfl | exact rfl | exact subVs_d _ _ | exact subVs_dm _ _ | exact subD_refl _ | refine And.intro ?_ ?_))
    · simp only [wkT, wkB, wkB1, subV, subVs, subD, subB, lkN_n, lkN_c, lkT_n, lkT_c, lkB_n, lkB_c, if_true, if_false, reduceIte, Nat.reduceEqDiff, true_and, and_true, and_self, inT, ofA]
      (repeat' (first | exact trivial | rfl | exact rfl | exact subVs_d _ _ | exact subVs_dm _ _ | exact subD_refl _ | refine And.intro ?_ ?_))
  obtain rfl : i = N := by omega
  have hd3 : decide ((i : Int) < (i : Int)) = false := ged (Nat.le_refl i)
  repeat' (first
    | (with_reducible refine aw_seq ?_)
    | ((with_reducible refine twoG_intro ?_ ?_) <;> intro hTw <;> first | (exact Bool.noConfusion hTw) | ((try simp only [hTw, Bool.not_true, Bool.not_false, Bool.true_and, Bool.false_and, Bool.and_true, Bool.and_false, Bool.true_or, Bool.false_or, Bool.or_true, Bool.or_false]); (first | (guard_hyp hTw : true = true; clear hTw) | (guard_hyp hTw : false = false; clear hTw) | (revert hTw; intro _))))
    | ((with_reducible refine two_intro ?_ ?_) <;> intro hTw <;> first | (exact Bool.noConfusion hTw) | ((first | (guard_hyp hTw : true = true; clear hTw) | (guard_hyp hTw : false = false; clear hTw) | (revert hTw; intro _))))
    | ((with_reducible refine And.intro ?_ ?_); (focus (first | omega | rfl | decide | grind)))
    | (with_reducible refine aw_block ?_)
    | (with_reducible refine aw_scope ?_)
    | ((first
        | ((with_reducible refine aw_regionA T_ok ?_ ?_); (focus kernel_rfl))
        | ((with_reducible refine aw_drawnA T_ok ?_ ?_ ?_ ?_); (focus kernel_rfl); (focus kernel_rfl); (focus (decide +kernel)))
        | ((with_reducible refine aw_drawnF T_ok ?_ ?_ ?_ ?_); (focus kernel_rfl); (focus kernel_rfl); (focus (decide +kernel)))
        | (with_reducible refine aw_label ?_)
        | ((with_reducible refine aw_rfM ?_ ?_); (focus kernel_rfl))
        | (with_reducible refine aw_skip ?_)
        | (with_reducible refine aw_exit ?_)
        | ((with_reducible refine aw_condM ?_ ?_); (focus kernel_rfl))
        | (with_reducible refine aw_ret ?_)
      ); simp only [↓avP, avQ, if_true, if_false, forall_const, beq_self_eq_true, eq_self, ne_eq, implies_true, reduceIte, Nat.reduceEqDiff, Nat.reduceAdd, Nat.reduceSub, Int.reduceToNat, Nat.reduceLeDiff, Nat.reduceLT, reduceCtorEq, Int.reduceEq, retQ, retL, resV, RetV, RetOk, SubL, intD_B, lotD_B, flowD_B, seenD_B, snocI, snocL, seen_take2, seen_take1, seen_drop3, ty_3, ty_28, ty_4, ty_24, ty_30, ty_22, ty_25, ty_27, issD_get, hd3]; try simp (disch := omega) only [av_w, av_t1, av_tp, Int.toNat_natCast]))
  exact Sub.refl _
end Go.Proofs.Ytnlaiaklafjamaa

