import Derived.Test.YtncihbmehbiekaaRA19
import Derived.Test.YtncihbmehbiekaaRA18
namespace Go.Proofs.Ytncihbmehbiekaa
set_option linter.unusedSimpArgs false
set_option linter.unusedVariables false
open Go.RowKit
set_option maxRecDepth 100000
set_option maxHeartbeats 4000000
theorem validW_check {f : FlowP} (h : validW f = true) : checkF f = 0 ∧ f.senders ≤ 12 ∧ f.lots.length ≤ 12 := by
  unfold validW fewW at h
  simp only [Bool.and_eq_true, Bool.or_eq_true, decide_eq_true_eq, beq_iff_eq] at h
  have := checkF_zero h.2
  exact ⟨h.2, by rcases h.1.2 with h | h <;> omega, h.1.1.2⟩
theorem ne0 {l : List Int} (h : l ≠ []) : ((l.length : Int) == 0) = false := by
  cases l with
  | nil => exact absurd rfl h
  | cons a l => simp; omega
theorem wlaw2_spec (f : FlowP) (hf : OkF f) : Spec Try.prog 4 [.agg (flowD f)] (.r1 (aB true)) := by
  refine spec_of T_ok Try.func4 (by dsimp only [Try.f4]) rfl rfl (by simp) fun w F => ?_
  have hV := wvalid_spec f hf
  cases hv : validW f with
  | false =>
    rw [hv] at hV
    repeat' (first
      | (with_reducible refine aw_seq ?_)
      | ((with_reducible refine twoG_intro ?_ ?_) <;> intro hTw <;> first | (exact Bool.noConfusion hTw) | ((try simp only [hTw, Bool.not_true, Bool.not_false, Bool.true_and, Bool.false_and, Bool.and_true, Bool.and_false, Bool.true_or, Bool.false_or, Bool.or_true, Bool.or_false]); (first | (guard_hyp hTw : true = true; clear hTw) | (guard_hyp hTw : false = false; clear hTw) | (revert hTw; intro _))))
      | ((with_reducible refine two_intro ?_ ?_) <;> intro hTw <;> first | (exact Bool.noConfusion hTw) | ((first | (guard_hyp hTw : true = true; clear hTw) | (guard_hyp hTw : false = false; clear hTw) | (revert hTw; intro _))))
      | ((with_reducible refine And.intro ?_ ?_); (focus (first | omega | rfl | decide | grind)))
      | (with_reducible refine aw_block ?_)
      | (with_reducible refine aw_scope ?_)
      | ((first
          | ((with_reducible refine aw_regionA T_ok ?_ ?_); (focus kernel_rfl))
          | ((with_reducible refine aw_drawnA T_ok ?_ ?_ ?_ ?_); (focus kernel_rfl); (focus kernel_rfl); (focus (decide +kernel)))
          | ((with_reducible refine aw_drawnF T_ok ?_ ?_ ?_ ?_); (focus kernel_rfl); (focus kernel_rfl); (focus (decide +kernel)))
          | ((with_reducible refine callK_intro (wsane_spec) (by with_unfolding_all rfl) ?_ ?_); (focus kernel_rfl))
          | ((with_reducible refine callI_spec (wsane_spec) (by with_unfolding_all rfl) ?_ ?_ ?_); (focus kernel_rfl); (focus kernel_rfl))
          | ((with_reducible refine callK_intro (hV) (by with_unfolding_all rfl) ?_ ?_); (focus kernel_rfl))
          | ((with_reducible refine callI_spec (hV) (by with_unfolding_all rfl) ?_ ?_ ?_); (focus kernel_rfl); (focus kernel_rfl))
          | (with_reducible refine aw_label ?_)
          | ((with_reducible refine aw_rfM ?_ ?_); (focus kernel_rfl))
          | (with_reducible refine aw_skip ?_)
          | (with_reducible refine aw_exit ?_)
          | ((with_reducible refine aw_condM ?_ ?_); (focus kernel_rfl))
          | (with_reducible refine aw_ret ?_)
        ); simp only [↓avP, avQ, if_true, if_false, forall_const, beq_self_eq_true, eq_self, ne_eq, implies_true, reduceIte, Nat.reduceEqDiff, Nat.reduceAdd, Nat.reduceSub, Int.reduceToNat, Nat.reduceLeDiff, Nat.reduceLT, reduceCtorEq, Int.reduceEq, retQ, retL, resV, RetV, RetOk, SubL, intD_B, lotD_B, flowD_B, snocI, snocL, ty_3, ty_27, ty_4, ty_24, ty_40, ty_22, ty_31, issD_get]; try simp (disch := omega) only [av_w, av_t1, av_tp, Int.toNat_natCast]))
    all_goals exact Sub.refl _
  | true =>
    rw [hv] at hV
    have hc := (validW_check hv).1
    obtain ⟨z1, z2, z3, z4, z5⟩ := checkF_zero hc
    obtain ⟨N, hN⟩ : ∃ N : Nat, f.senders = N := ⟨f.senders.toNat, by omega⟩
    have hMt := wmatrix_spec f hf
    have hE := fends_spec f hf
    have hSn := wsenders_spec f
    rw [hc, show matR f = matA f N by rw [matR, if_pos hc, hN]; rfl] at hMt
    rw [hc, show endsR f = endsF f by rw [endsR, if_pos hc]] at hE
    have hlen := endsF_len hc
    have hml := matA_len f N
    have hget := fun {s : Nat} (h : s < N) => matA_get (f := f) h
    have hsome := fun {s : Nat} (h : s < N) => endS_some (f := f) hc s (by omega)
    have hLl := fun s => endS_len (f := f) hc s
    have hlt := fun s => endS_lt f s
    have hEn := fun {s : Nat} (h : s < N) => wends_spec f (s : Int) hf
    have hEe0 : ∀ {s : Nat}, s < N → errE f s = 0 := fun {s} h => by rw [errE, if_neg (by simpa using hc), if_neg (by omega)]
    have hmem : ∀ (s : Nat) (t : Int), t ∈ endS f s → t ∈ endsF f := fun s t h => (mem_endS.1 h).1
    have hboth : ∀ (s : Nat), s < N → ∀ t ∈ endsF f, decide (t ∈ endS f s) = decide ((s : Int) ∈ sndS f t N) := fun s hs t ht => by
      rw [decide_eq_decide, mem_endS, mem_sndS]
      exact ⟨fun h => ⟨by omega, by omega, h.2⟩, fun h => ⟨ht, h.2.2⟩⟩
    have hss := fun {t : Int} (ht : t ∈ endsF f) => sndS_some (f := f) hc ht hN
    have hsl := fun t => sndS_len f t N
    have hSn : ∀ t ∈ endsF f, Spec Try.prog 14 [.agg (flowD f), aI t] (.rt [aIs (sndS f t N), aI 0]) := fun t ht => by
      have h := wsenders_spec f t hf
      have e : errS f t = 0 := by rw [errS, if_neg (by simpa using hc), if_pos ht]
      rwa [sndR, if_pos e, e, show f.senders.toNat = N by omega] at h
    obtain ⟨M, hM⟩ : ∃ M, M = matA f N := ⟨_, rfl⟩
    obtain ⟨E, hEe⟩ : ∃ E, E = endsF f := ⟨_, rfl⟩
    simp only [← hM] at hMt hml hget
    simp only [← hEe] at hE hlen hmem hboth hss hSn
    have hEl : E.length = N := by omega
    have g1 : ((M.length : Int) != f.senders) = false := by simp; omega
    have g2 : ((E.length : Int) != f.senders) = false := by simp; omega
    repeat' (first
      | (with_reducible refine aw_seq ?_)
      | ((with_reducible refine twoG_intro ?_ ?_) <;> intro hTw <;> first | (exact Bool.noConfusion hTw) | ((try simp only [hTw, Bool.not_true, Bool.not_false, Bool.true_and, Bool.false_and, Bool.and_true, Bool.and_false, Bool.true_or, Bool.false_or, Bool.or_true, Bool.or_false]); (first | (guard_hyp hTw : true = true; clear hTw) | (guard_hyp hTw : false = false; clear hTw) | (revert hTw; intro _))))
      | ((with_reducible refine two_intro ?_ ?_) <;> intro hTw <;> first | (exact Bool.noConfusion hTw) | ((first | (guard_hyp hTw : true = true; clear hTw) | (guard_hyp hTw : false = false; clear hTw) | (revert hTw; intro _))))
      | ((with_reducible refine And.intro ?_ ?_); (focus (first | omega | rfl | decide | grind)))
      | (with_reducible refine aw_block ?_)
      | (with_reducible refine aw_scope ?_)
      | ((first
          | ((with_reducible refine aw_regionA T_ok ?_ ?_); (focus kernel_rfl))
          | ((with_reducible refine aw_drawnA T_ok ?_ ?_ ?_ ?_); (focus kernel_rfl); (focus kernel_rfl); (focus (decide +kernel)))
          | ((with_reducible refine aw_drawnF T_ok ?_ ?_ ?_ ?_); (focus kernel_rfl); (focus kernel_rfl); (focus (decide +kernel)))
          | ((with_reducible refine callK_intro (wsane_spec) (by with_unfolding_all rfl) ?_ ?_); (focus kernel_rfl))
          | ((with_reducible refine callI_spec (wsane_spec) (by with_unfolding_all rfl) ?_ ?_ ?_); (focus kernel_rfl); (focus kernel_rfl))
          | ((with_reducible refine callK_intro (hV) (by with_unfolding_all rfl) ?_ ?_); (focus kernel_rfl))
          | ((with_reducible refine callI_spec (hV) (by with_unfolding_all rfl) ?_ ?_ ?_); (focus kernel_rfl); (focus kernel_rfl))
          | ((with_reducible refine callK_intro (hMt) (by with_unfolding_all rfl) ?_ ?_); (focus kernel_rfl))
          | ((with_reducible refine callI_spec (hMt) (by with_unfolding_all rfl) ?_ ?_ ?_); (focus kernel_rfl); (focus kernel_rfl))
          | ((with_reducible refine callK_intro (hE) (by with_unfolding_all rfl) ?_ ?_); (focus kernel_rfl))
          | ((with_reducible refine callI_spec (hE) (by with_unfolding_all rfl) ?_ ?_ ?_); (focus kernel_rfl); (focus kernel_rfl))
          | (with_reducible refine aw_label ?_)
          | ((with_reducible refine aw_rfM ?_ ?_); (focus kernel_rfl))
          | (with_reducible refine aw_skip ?_)
          | (with_reducible refine aw_exit ?_)
          | ((with_reducible refine aw_condM ?_ ?_); (focus kernel_rfl))
          | (with_reducible refine aw_ret ?_)
        ); simp only [↓avP, avQ, if_true, if_false, forall_const, beq_self_eq_true, eq_self, ne_eq, implies_true, reduceIte, Nat.reduceEqDiff, Nat.reduceAdd, Nat.reduceSub, Int.reduceToNat, Nat.reduceLeDiff, Nat.reduceLT, reduceCtorEq, Int.reduceEq, retQ, retL, resV, RetV, RetOk, SubL, intD_B, lotD_B, flowD_B, snocI, snocL, ty_3, ty_27, ty_4, ty_24, ty_40, ty_22, ty_31, issD_get, g1, g2]; try simp (disch := omega) only [av_w, av_t1, av_tp, Int.toNat_natCast]))
    refine aw_loopI (fun s : Nat => ⟨[(1, .ptr 0 0), (3, vIss M), (5, vIs E), (54, vIss M), (55, vI M.length), (56, vI s)], [(0, .cells 24 (dV (flowD f)))], 1⟩)
      (fun s => s ≤ M.length) (fun s => M.length - s) 0 (Nat.zero_le _) (wk_of [(0, some 0)] rfl rfl ?_ ?_) ?_
    · simp only [wkT, wkB, wkB1, subV, subVs, subD, subB, lkN_n, lkN_c, lkT_n, lkT_c, lkB_n, lkB_c, if_true, if_false, reduceIte, Nat.reduceEqDiff, true_and, and_true, and_self, inT, ofA]
      (repeat' (first | exact trivial | rfl | exact rfl | exact subVs_d _ _ | exact subVs_dm _ _ | exact subD_refl _ | refine And.intro ?_ ?_))
    · simp only [wkT, wkB, wkB1, subV, subVs, subD, subB, lkN_n, lkN_c, lkT_n, lkT_c, lkB_n, lkB_c, if_true, if_false, reduceIte, Nat.reduceEqDiff, true_and, and_true, and_self, inT, ofA]
      (repeat' (first | exact trivial | rfl | exact rfl | exact subVs_d _ _ | exact subVs_dm _ _ | exact subD_refl _ | refine And.intro ?_ ?_))
    intro s hs
    rcases Nat.lt_or_ge s M.length with hslt | hsge
    · have hd := ltd hslt
      have hsN : s < N := by omega
      have h1 := hEn hsN
      rw [endR, if_pos (hEe0 hsN), hEe0 hsN] at h1
      have hget := hget hsN
      have hsome := ne0 (hsome hsN)
      have hLl := hLl s
      have hlt := hlt s
      have hmem := hmem s
      obtain ⟨L, hL⟩ : ∃ L, L = endS f s := ⟨_, rfl⟩
      simp only [← hL] at h1 hget hsome hLl hlt hmem
      have hsi := sameInts_spec L L (by omega)
      repeat' (first
        | (with_reducible refine aw_seq ?_)
        | ((with_reducible refine twoG_intro ?_ ?_) <;> intro hTw <;> first | (exact Bool.noConfusion hTw) | ((try simp only [hTw, Bool.not_true, Bool.not_false, Bool.true_and, Bool.false_and, Bool.and_true, Bool.and_false, Bool.true_or, Bool.false_or, Bool.or_true, Bool.or_false]); (first | (guard_hyp hTw : true = true; clear hTw) | (guard_hyp hTw : false = false; clear hTw) | (revert hTw; intro _))))
        | ((with_reducible refine two_intro ?_ ?_) <;> intro hTw <;> first | (exact Bool.noConfusion hTw) | ((first | (guard_hyp hTw : true = true; clear hTw) | (guard_hyp hTw : false = false; clear hTw) | (revert hTw; intro _))))
        | ((with_reducible refine And.intro ?_ ?_); (focus (first | omega | rfl | decide | grind)))
        | (with_reducible refine aw_block ?_)
        | (with_reducible refine aw_scope ?_)
        | ((first
            | ((with_reducible refine aw_regionA T_ok ?_ ?_); (focus kernel_rfl))
            | ((with_reducible refine aw_drawnA T_ok ?_ ?_ ?_ ?_); (focus kernel_rfl); (focus kernel_rfl); (focus (decide +kernel)))
            | ((with_reducible refine aw_drawnF T_ok ?_ ?_ ?_ ?_); (focus kernel_rfl); (focus kernel_rfl); (focus (decide +kernel)))
            | ((with_reducible refine callK_intro (h1) (by with_unfolding_all rfl) ?_ ?_); (focus kernel_rfl))
            | ((with_reducible refine callI_spec (h1) (by with_unfolding_all rfl) ?_ ?_ ?_); (focus kernel_rfl); (focus kernel_rfl))
            | ((with_reducible refine callK_intro (hsi) (by with_unfolding_all rfl) ?_ ?_); (focus kernel_rfl))
            | ((with_reducible refine callI_spec (hsi) (by with_unfolding_all rfl) ?_ ?_ ?_); (focus kernel_rfl); (focus kernel_rfl))
            | (with_reducible refine aw_label ?_)
            | ((with_reducible refine aw_rfM ?_ ?_); (focus kernel_rfl))
            | (with_reducible refine aw_skip ?_)
            | (with_reducible refine aw_exit ?_)
            | ((with_reducible refine aw_condM ?_ ?_); (focus kernel_rfl))
            | (with_reducible refine aw_ret ?_)
          ); simp only [↓avP, avQ, if_true, if_false, forall_const, beq_self_eq_true, eq_self, ne_eq, implies_true, reduceIte, Nat.reduceEqDiff, Nat.reduceAdd, Nat.reduceSub, Int.reduceToNat, Nat.reduceLeDiff, Nat.reduceLT, reduceCtorEq, Int.reduceEq, retQ, retL, resV, RetV, RetOk, SubL, intD_B, lotD_B, flowD_B, snocI, snocL, ty_3, ty_27, ty_4, ty_24, ty_40, ty_22, ty_31, issD_get, hd, hget, hsome]; try simp (disch := omega) only [av_w, av_t1, av_tp, Int.toNat_natCast]))
      refine aw_loopI (fun k : Nat => ⟨[(1, .ptr 0 0), (3, vIss M), (5, vIs E), (9, vIs L), (54, vIss M), (55, vI M.length), (56, vI s), (80, vIs L), (81, vI L.length), (82, vI k)], [(0, .cells 24 (dV (flowD f)))], 1⟩)
        (fun k => k ≤ L.length) (fun k => L.length - k) 0 (Nat.zero_le _) (wk_of [(0, some 0)] rfl rfl ?_ ?_) ?_
      · simp only [wkT, wkB, wkB1, subV, subVs, subD, subB, lkN_n, lkN_c, lkT_n, lkT_c, lkB_n, lkB_c, if_true, if_false, reduceIte, Nat.reduceEqDiff, true_and, and_true, and_self, inT, ofA]
        (repeat' (first | exact trivial | rfl | exact rfl | exact subVs_d _ _ | exact subVs_dm _ _ | exact subD_refl _ | refine And.intro ?_ ?_))
      · simp only [wkT, wkB, wkB1, subV, subVs, subD, subB, lkN_n, lkN_c, lkT_n, lkT_c, lkB_n, lkB_c, if_true, if_false, reduceIte, Nat.reduceEqDiff, true_and, and_true, and_self, inT, ofA]
        (repeat' (first | exact trivial | rfl | exact rfl | exact subVs_d _ _ | exact subVs_dm _ _ | exact subD_refl _ | refine And.intro ?_ ?_))
      intro k hk
      rcases Nat.lt_or_ge k L.length with hklt | hkge
      · have hd2 := ltd hklt
        have hh := has_spec E (L.getD k 0) (by omega)
        have hhd : decide (L.getD k 0 ∈ E) = true := decide_eq_true (hmem _ (getD_mem hklt))
        rw [hhd] at hh
        by_cases h0 : k = 0
        · subst h0
          have hd0 : decide (((0 : Nat) : Int) > 0) = false := rfl
          repeat' (first
            | (with_reducible refine aw_seq ?_)
            | ((with_reducible refine twoG_intro ?_ ?_) <;> intro hTw <;> first | (exact Bool.noConfusion hTw) | ((try simp only [hTw, Bool.not_true, Bool.not_false, Bool.true_and, Bool.false_and, Bool.and_true, Bool.and_false, Bool.true_or, Bool.false_or, Bool.or_true, Bool.or_false]); (first | (guard_hyp hTw : true = true; clear hTw) | (guard_hyp hTw : false = false; clear hTw) | (revert hTw; intro _))))
            | ((with_reducible refine two_intro ?_ ?_) <;> intro hTw <;> first | (exact Bool.noConfusion hTw) | ((first | (guard_hyp hTw : true = true; clear hTw) | (guard_hyp hTw : false = false; clear hTw) | (revert hTw; intro _))))
            | ((with_reducible refine And.intro ?_ ?_); (focus (first | omega | rfl | decide | grind)))
            | (with_reducible refine aw_block ?_)
            | (with_reducible refine aw_scope ?_)
            | ((first
                | ((with_reducible refine aw_regionA T_ok ?_ ?_); (focus kernel_rfl))
                | ((with_reducible refine aw_drawnA T_ok ?_ ?_ ?_ ?_); (focus kernel_rfl); (focus kernel_rfl); (focus (decide +kernel)))
                | ((with_reducible refine aw_drawnF T_ok ?_ ?_ ?_ ?_); (focus kernel_rfl); (focus kernel_rfl); (focus (decide +kernel)))
                | ((with_reducible refine callK_intro (hh) (by with_unfolding_all rfl) ?_ ?_); (focus kernel_rfl))
                | ((with_reducible refine callI_spec (hh) (by with_unfolding_all rfl) ?_ ?_ ?_); (focus kernel_rfl); (focus kernel_rfl))
                | (with_reducible refine aw_label ?_)
                | ((with_reducible refine aw_rfM ?_ ?_); (focus kernel_rfl))
                | (with_reducible refine aw_skip ?_)
                | (with_reducible refine aw_exit ?_)
                | ((with_reducible refine aw_condM ?_ ?_); (focus kernel_rfl))
                | (with_reducible refine aw_ret ?_)
              ); simp only [↓avP, avQ, if_true, if_false, forall_const, beq_self_eq_true, eq_self, ne_eq, implies_true, reduceIte, Nat.reduceEqDiff, Nat.reduceAdd, Nat.reduceSub, Int.reduceToNat, Nat.reduceLeDiff, Nat.reduceLT, reduceCtorEq, Int.reduceEq, retQ, retL, resV, RetV, RetOk, SubL, intD_B, lotD_B, flowD_B, snocI, snocL, ty_3, ty_27, ty_4, ty_24, ty_40, ty_22, ty_31, issD_get, hd2, hd0]; try simp (disch := omega) only [av_w, av_t1, av_tp, Int.toNat_natCast]))
          refine ⟨0 + 1, by omega, by dsimp only; omega, wk_of [(0, some 0)] rfl rfl ?_ ?_⟩
          · simp only [wkT, wkB, wkB1, subV, subVs, subD, subB, lkN_n, lkN_c, lkT_n, lkT_c, lkB_n, lkB_c, if_true, if_false, reduceIte, Nat.reduceEqDiff, true_and, and_true, and_self, inT, ofA]
            (repeat' (first | exact trivial | rfl | exact rfl | exact subVs_d _ _ | exact subVs_dm _ _ | exact subD_refl _ | refine And.intro ?_ ?_))
          · simp only [wkT, wkB, wkB1, subV, subVs, subD, subB, lkN_n, lkN_c, lkT_n, lkT_c, lkB_n, lkB_c, if_true, if_false, reduceIte, Nat.reduceEqDiff, true_and, and_true, and_self, inT, ofA]
            (repeat' (first | exact trivial | rfl | exact rfl | exact subVs_d _ _ | exact subVs_dm _ _ | exact subD_refl _ | refine And.intro ?_ ?_))
        · have hd0 : decide ((k : Int) > 0) = true := decide_eq_true (by omega)
          have hd1 : decide (L.getD k 0 ≤ L.getD (k - 1) 0) = false := decide_eq_false (by have := pairwise_at hlt h0 hklt; omega)
          repeat' (first
            | (with_reducible refine aw_seq ?_)
            | ((with_reducible refine twoG_intro ?_ ?_) <;> intro hTw <;> first | (exact Bool.noConfusion hTw) | ((try simp only [hTw, Bool.not_true, Bool.not_false, Bool.true_and, Bool.false_and, Bool.and_true, Bool.and_false, Bool.true_or, Bool.false_or, Bool.or_true, Bool.or_false]); (first | (guard_hyp hTw : true = true; clear hTw) | (guard_hyp hTw : false = false; clear hTw) | (revert hTw; intro _))))
            | ((with_reducible refine two_intro ?_ ?_) <;> intro hTw <;> first | (exact Bool.noConfusion hTw) | ((first | (guard_hyp hTw : true = true; clear hTw) | (guard_hyp hTw : false = false; clear hTw) | (revert hTw; intro _))))
            | ((with_reducible refine And.intro ?_ ?_); (focus (first | omega | rfl | decide | grind)))
            | (with_reducible refine aw_block ?_)
            | (with_reducible refine aw_scope ?_)
            | ((first
                | ((with_reducible refine aw_regionA T_ok ?_ ?_); (focus kernel_rfl))
                | ((with_reducible refine aw_drawnA T_ok ?_ ?_ ?_ ?_); (focus kernel_rfl); (focus kernel_rfl); (focus (decide +kernel)))
                | ((with_reducible refine aw_drawnF T_ok ?_ ?_ ?_ ?_); (focus kernel_rfl); (focus kernel_rfl); (focus (decide +kernel)))
                | ((with_reducible refine callK_intro (hh) (by with_unfolding_all rfl) ?_ ?_); (focus kernel_rfl))
                | ((with_reducible refine callI_spec (hh) (by with_unfolding_all rfl) ?_ ?_ ?_); (focus kernel_rfl); (focus kernel_rfl))
                | (with_reducible refine aw_label ?_)
                | ((with_reducible refine aw_rfM ?_ ?_); (focus kernel_rfl))
                | (with_reducible refine aw_skip ?_)
                | (with_reducible refine aw_exit ?_)
                | ((with_reducible refine aw_condM ?_ ?_); (focus kernel_rfl))
                | (with_reducible refine aw_ret ?_)
              ); simp only [↓avP, avQ, if_true, if_false, forall_const, beq_self_eq_true, eq_self, ne_eq, implies_true, reduceIte, Nat.reduceEqDiff, Nat.reduceAdd, Nat.reduceSub, Int.reduceToNat, Nat.reduceLeDiff, Nat.reduceLT, reduceCtorEq, Int.reduceEq, retQ, retL, resV, RetV, RetOk, SubL, intD_B, lotD_B, flowD_B, snocI, snocL, ty_3, ty_27, ty_4, ty_24, ty_40, ty_22, ty_31, issD_get, hd2, hd0, hd1]; try simp (disch := omega) only [av_w, av_t1, av_tp, Int.toNat_natCast]))
          refine ⟨k + 1, by omega, by dsimp only; omega, wk_of [(0, some 0)] rfl rfl ?_ ?_⟩
          · simp only [wkT, wkB, wkB1, subV, subVs, subD, subB, lkN_n, lkN_c, lkT_n, lkT_c, lkB_n, lkB_c, if_true, if_false, reduceIte, Nat.reduceEqDiff, true_and, and_true, and_self, inT, ofA]
            (repeat' (first | exact trivial | rfl | exact rfl | exact subVs_d _ _ | exact subVs_dm _ _ | exact subD_refl _ | refine And.intro ?_ ?_))
          · simp only [wkT, wkB, wkB1, subV, subVs, subD, subB, lkN_n, lkN_c, lkT_n, lkT_c, lkB_n, lkB_c, if_true, if_false, reduceIte, Nat.reduceEqDiff, true_and, and_true, and_self, inT, ofA]
            (repeat' (first | exact trivial | rfl | exact rfl | exact subVs_d _ _ | exact subVs_dm _ _ | exact subD_refl _ | refine And.intro ?_ ?_))
      obtain rfl : k = L.length := by omega
      have hd2 := ged (Nat.le_refl L.length)
      repeat' (first
        | (with_reducible refine aw_seq ?_)
        | ((with_reducible refine twoG_intro ?_ ?_) <;> intro hTw <;> first | (exact Bool.noConfusion hTw) | ((try simp only [hTw, Bool.not_true, Bool.not_false, Bool.true_and, Bool.false_and, Bool.and_true, Bool.and_false, Bool.true_or, Bool.false_or, Bool.or_true, Bool.or_false]); (first | (guard_hyp hTw : true = true; clear hTw) | (guard_hyp hTw : false = false; clear hTw) | (revert hTw; intro _))))
        | ((with_reducible refine two_intro ?_ ?_) <;> intro hTw <;> first | (exact Bool.noConfusion hTw) | ((first | (guard_hyp hTw : true = true; clear hTw) | (guard_hyp hTw : false = false; clear hTw) | (revert hTw; intro _))))
        | ((with_reducible refine And.intro ?_ ?_); (focus (first | omega | rfl | decide | grind)))
        | (with_reducible refine aw_block ?_)
        | (with_reducible refine aw_scope ?_)
        | ((first
            | ((with_reducible refine aw_regionA T_ok ?_ ?_); (focus kernel_rfl))
            | ((with_reducible refine aw_drawnA T_ok ?_ ?_ ?_ ?_); (focus kernel_rfl); (focus kernel_rfl); (focus (decide +kernel)))
            | ((with_reducible refine aw_drawnF T_ok ?_ ?_ ?_ ?_); (focus kernel_rfl); (focus kernel_rfl); (focus (decide +kernel)))
            | (with_reducible refine aw_label ?_)
            | ((with_reducible refine aw_rfM ?_ ?_); (focus kernel_rfl))
            | (with_reducible refine aw_skip ?_)
            | (with_reducible refine aw_exit ?_)
            | ((with_reducible refine aw_condM ?_ ?_); (focus kernel_rfl))
            | (with_reducible refine aw_ret ?_)
          ); simp only [↓avP, avQ, if_true, if_false, forall_const, beq_self_eq_true, eq_self, ne_eq, implies_true, reduceIte, Nat.reduceEqDiff, Nat.reduceAdd, Nat.reduceSub, Int.reduceToNat, Nat.reduceLeDiff, Nat.reduceLT, reduceCtorEq, Int.reduceEq, retQ, retL, resV, RetV, RetOk, SubL, intD_B, lotD_B, flowD_B, snocI, snocL, ty_3, ty_27, ty_4, ty_24, ty_40, ty_22, ty_31, issD_get, hd2]; try simp (disch := omega) only [av_w, av_t1, av_tp, Int.toNat_natCast]))
      refine ⟨s + 1, by omega, by dsimp only; omega, wk_of [(0, some 0)] rfl rfl ?_ ?_⟩
      · simp only [wkT, wkB, wkB1, subV, subVs, subD, subB, lkN_n, lkN_c, lkT_n, lkT_c, lkB_n, lkB_c, if_true, if_false, reduceIte, Nat.reduceEqDiff, true_and, and_true, and_self, inT, ofA]
        (repeat' (first | exact trivial | rfl | exact rfl | exact subVs_d _ _ | exact subVs_dm _ _ | exact subD_refl _ | refine And.intro ?_ ?_))
      · simp only [wkT, wkB, wkB1, subV, subVs, subD, subB, lkN_n, lkN_c, lkT_n, lkT_c, lkB_n, lkB_c, if_true, if_false, reduceIte, Nat.reduceEqDiff, true_and, and_true, and_self, inT, ofA]
        (repeat' (first | exact trivial | rfl | exact rfl | exact subVs_d _ _ | exact subVs_dm _ _ | exact subD_refl _ | refine And.intro ?_ ?_))
    obtain rfl : s = M.length := by omega
    have hd := ged (Nat.le_refl M.length)
    repeat' (first
      | (with_reducible refine aw_seq ?_)
      | ((with_reducible refine twoG_intro ?_ ?_) <;> intro hTw <;> first | (exact Bool.noConfusion hTw) | ((try simp only [hTw, Bool.not_true, Bool.not_false, Bool.true_and, Bool.false_and, Bool.and_true, Bool.and_false, Bool.true_or, Bool.false_or, Bool.or_true, Bool.or_false]); (first | (guard_hyp hTw : true = true; clear hTw) | (guard_hyp hTw : false = false; clear hTw) | (revert hTw; intro _))))
      | ((with_reducible refine two_intro ?_ ?_) <;> intro hTw <;> first | (exact Bool.noConfusion hTw) | ((first | (guard_hyp hTw : true = true; clear hTw) | (guard_hyp hTw : false = false; clear hTw) | (revert hTw; intro _))))
      | ((with_reducible refine And.intro ?_ ?_); (focus (first | omega | rfl | decide | grind)))
      | (with_reducible refine aw_block ?_)
      | (with_reducible refine aw_scope ?_)
      | ((first
          | ((with_reducible refine aw_regionA T_ok ?_ ?_); (focus kernel_rfl))
          | ((with_reducible refine aw_drawnA T_ok ?_ ?_ ?_ ?_); (focus kernel_rfl); (focus kernel_rfl); (focus (decide +kernel)))
          | ((with_reducible refine aw_drawnF T_ok ?_ ?_ ?_ ?_); (focus kernel_rfl); (focus kernel_rfl); (focus (decide +kernel)))
          | (with_reducible refine aw_label ?_)
          | ((with_reducible refine aw_rfM ?_ ?_); (focus kernel_rfl))
          | (with_reducible refine aw_skip ?_)
          | (with_reducible refine aw_exit ?_)
          | ((with_reducible refine aw_condM ?_ ?_); (focus kernel_rfl))
          | (with_reducible refine aw_ret ?_)
        ); simp only [↓avP, avQ, if_true, if_false, forall_const, beq_self_eq_true, eq_self, ne_eq, implies_true, reduceIte, Nat.reduceEqDiff, Nat.reduceAdd, Nat.reduceSub, Int.reduceToNat, Nat.reduceLeDiff, Nat.reduceLT, reduceCtorEq, Int.reduceEq, retQ, retL, resV, RetV, RetOk, SubL, intD_B, lotD_B, flowD_B, snocI, snocL, ty_3, ty_27, ty_4, ty_24, ty_40, ty_22, ty_31, issD_get, hd]; try simp (disch := omega) only [av_w, av_t1, av_tp, Int.toNat_natCast]))
    refine aw_loopI (fun s : Nat => ⟨[(1, .ptr 0 0), (3, vIss M), (106, vIs E), (107, vI E.length), (108, vI s)], [(0, .cells 24 (dV (flowD f)))], 1⟩)
      (fun s => s ≤ E.length) (fun s => E.length - s) 0 (Nat.zero_le _) (wk_of [(0, some 0)] rfl rfl ?_ ?_) ?_
    · simp only [wkT, wkB, wkB1, subV, subVs, subD, subB, lkN_n, lkN_c, lkT_n, lkT_c, lkB_n, lkB_c, if_true, if_false, reduceIte, Nat.reduceEqDiff, true_and, and_true, and_self, inT, ofA]
      (repeat' (first | exact trivial | rfl | exact rfl | exact subVs_d _ _ | exact subVs_dm _ _ | exact subD_refl _ | refine And.intro ?_ ?_))
    · simp only [wkT, wkB, wkB1, subV, subVs, subD, subB, lkN_n, lkN_c, lkT_n, lkT_c, lkB_n, lkB_c, if_true, if_false, reduceIte, Nat.reduceEqDiff, true_and, and_true, and_self, inT, ofA]
      (repeat' (first | exact trivial | rfl | exact rfl | exact subVs_d _ _ | exact subVs_dm _ _ | exact subD_refl _ | refine And.intro ?_ ?_))
    intro s hs
    rcases Nat.lt_or_ge s E.length with hslt | hsge
    · have hd := ltd hslt
      have htE := getD_mem hslt
      have h1 := hSn _ htE
      have hsome := ne0 (hss htE)
      have hsl := hsl (E.getD s 0)
      have hboth := fun i hi => hboth i hi _ htE
      obtain ⟨t, ht⟩ : ∃ t, t = E.getD s 0 := ⟨_, rfl⟩
      simp only [← ht] at h1 hsome hsl hboth
      obtain ⟨L, hL⟩ : ∃ L, L = sndS f t N := ⟨_, rfl⟩
      simp only [← hL] at h1 hsome hsl hboth
      repeat' (first
        | (with_reducible refine aw_seq ?_)
        | ((with_reducible refine twoG_intro ?_ ?_) <;> intro hTw <;> first | (exact Bool.noConfusion hTw) | ((try simp only [hTw, Bool.not_true, Bool.not_false, Bool.true_and, Bool.false_and, Bool.and_true, Bool.and_false, Bool.true_or, Bool.false_or, Bool.or_true, Bool.or_false]); (first | (guard_hyp hTw : true = true; clear hTw) | (guard_hyp hTw : false = false; clear hTw) | (revert hTw; intro _))))
        | ((with_reducible refine two_intro ?_ ?_) <;> intro hTw <;> first | (exact Bool.noConfusion hTw) | ((first | (guard_hyp hTw : true = true; clear hTw) | (guard_hyp hTw : false = false; clear hTw) | (revert hTw; intro _))))
        | ((with_reducible refine And.intro ?_ ?_); (focus (first | omega | rfl | decide | grind)))
        | (with_reducible refine aw_block ?_)
        | (with_reducible refine aw_scope ?_)
        | ((first
            | ((with_reducible refine aw_regionA T_ok ?_ ?_); (focus kernel_rfl))
            | ((with_reducible refine aw_drawnA T_ok ?_ ?_ ?_ ?_); (focus kernel_rfl); (focus kernel_rfl); (focus (decide +kernel)))
            | ((with_reducible refine aw_drawnF T_ok ?_ ?_ ?_ ?_); (focus kernel_rfl); (focus kernel_rfl); (focus (decide +kernel)))
            | ((with_reducible refine callK_intro (h1) (by with_unfolding_all rfl) ?_ ?_); (focus kernel_rfl))
            | ((with_reducible refine callI_spec (h1) (by with_unfolding_all rfl) ?_ ?_ ?_); (focus kernel_rfl); (focus kernel_rfl))
            | (with_reducible refine aw_label ?_)
            | ((with_reducible refine aw_rfM ?_ ?_); (focus kernel_rfl))
            | (with_reducible refine aw_skip ?_)
            | (with_reducible refine aw_exit ?_)
            | ((with_reducible refine aw_condM ?_ ?_); (focus kernel_rfl))
            | (with_reducible refine aw_ret ?_)
          ); simp only [↓avP, avQ, if_true, if_false, forall_const, beq_self_eq_true, eq_self, ne_eq, implies_true, reduceIte, Nat.reduceEqDiff, Nat.reduceAdd, Nat.reduceSub, Int.reduceToNat, Nat.reduceLeDiff, Nat.reduceLT, reduceCtorEq, Int.reduceEq, retQ, retL, resV, RetV, RetOk, SubL, intD_B, lotD_B, flowD_B, snocI, snocL, ty_3, ty_27, ty_4, ty_24, ty_40, ty_22, ty_31, issD_get, hd, hsome, ← ht]; try simp (disch := omega) only [av_w, av_t1, av_tp, Int.toNat_natCast]))
      refine aw_loopI (fun k : Nat => ⟨[(1, .ptr 0 0), (3, vIss M), (14, vI t), (15, vIs L), (106, vIs E), (107, vI E.length), (108, vI s), (125, vIss M), (126, vI M.length), (127, vI k)], [(0, .cells 24 (dV (flowD f)))], 1⟩)
        (fun k => k ≤ M.length) (fun k => M.length - k) 0 (Nat.zero_le _) (wk_of [(0, some 0)] rfl rfl ?_ ?_) ?_
      · simp only [wkT, wkB, wkB1, subV, subVs, subD, subB, lkN_n, lkN_c, lkT_n, lkT_c, lkB_n, lkB_c, if_true, if_false, reduceIte, Nat.reduceEqDiff, true_and, and_true, and_self, inT, ofA]
        (repeat' (first | exact trivial | rfl | exact rfl | exact subVs_d _ _ | exact subVs_dm _ _ | exact subD_refl _ | refine And.intro ?_ ?_))
      · simp only [wkT, wkB, wkB1, subV, subVs, subD, subB, lkN_n, lkN_c, lkT_n, lkT_c, lkB_n, lkB_c, if_true, if_false, reduceIte, Nat.reduceEqDiff, true_and, and_true, and_self, inT, ofA]
        (repeat' (first | exact trivial | rfl | exact rfl | exact subVs_d _ _ | exact subVs_dm _ _ | exact subD_refl _ | refine And.intro ?_ ?_))
      intro k hk
      rcases Nat.lt_or_ge k M.length with hklt | hkge
      · have hd2 := ltd hklt
        have hkN : k < N := by omega
        have hget := hget hkN
        have hb := hboth k hkN
        have hLl := hLl k
        have h1 := has_spec (endS f k) t (by omega)
        have h2 := has_spec L k (by omega)
        rw [hb] at h1
        rw [← hget] at h1
        obtain ⟨b, hb2⟩ : ∃ b : Bool, b = decide ((k : Int) ∈ L) := ⟨_, rfl⟩
        rw [← hb2] at h1 h2
        have hbb : (b != b) = false := by simp
        repeat' (first
          | (with_reducible refine aw_seq ?_)
          | ((with_reducible refine twoG_intro ?_ ?_) <;> intro hTw <;> first | (exact Bool.noConfusion hTw) | ((try simp only [hTw, Bool.not_true, Bool.not_false, Bool.true_and, Bool.false_and, Bool.and_true, Bool.and_false, Bool.true_or, Bool.false_or, Bool.or_true, Bool.or_false]); (first | (guard_hyp hTw : true = true; clear hTw) | (guard_hyp hTw : false = false; clear hTw) | (revert hTw; intro _))))
          | ((with_reducible refine two_intro ?_ ?_) <;> intro hTw <;> first | (exact Bool.noConfusion hTw) | ((first | (guard_hyp hTw : true = true; clear hTw) | (guard_hyp hTw : false = false; clear hTw) | (revert hTw; intro _))))
          | ((with_reducible refine And.intro ?_ ?_); (focus (first | omega | rfl | decide | grind)))
          | (with_reducible refine aw_block ?_)
          | (with_reducible refine aw_scope ?_)
          | ((first
              | ((with_reducible refine aw_regionA T_ok ?_ ?_); (focus kernel_rfl))
              | ((with_reducible refine aw_drawnA T_ok ?_ ?_ ?_ ?_); (focus kernel_rfl); (focus kernel_rfl); (focus (decide +kernel)))
              | ((with_reducible refine aw_drawnF T_ok ?_ ?_ ?_ ?_); (focus kernel_rfl); (focus kernel_rfl); (focus (decide +kernel)))
              | ((with_reducible refine callK_intro (h1) (by with_unfolding_all rfl) ?_ ?_); (focus kernel_rfl))
              | ((with_reducible refine callI_spec (h1) (by with_unfolding_all rfl) ?_ ?_ ?_); (focus kernel_rfl); (focus kernel_rfl))
              | ((with_reducible refine callK_intro (h2) (by with_unfolding_all rfl) ?_ ?_); (focus kernel_rfl))
              | ((with_reducible refine callI_spec (h2) (by with_unfolding_all rfl) ?_ ?_ ?_); (focus kernel_rfl); (focus kernel_rfl))
              | (with_reducible refine aw_label ?_)
              | ((with_reducible refine aw_rfM ?_ ?_); (focus kernel_rfl))
              | (with_reducible refine aw_skip ?_)
              | (with_reducible refine aw_exit ?_)
              | ((with_reducible refine aw_condM ?_ ?_); (focus kernel_rfl))
              | (with_reducible refine aw_ret ?_)
            ); simp only [↓avP, avQ, if_true, if_false, forall_const, beq_self_eq_true, eq_self, ne_eq, implies_true, reduceIte, Nat.reduceEqDiff, Nat.reduceAdd, Nat.reduceSub, Int.reduceToNat, Nat.reduceLeDiff, Nat.reduceLT, reduceCtorEq, Int.reduceEq, retQ, retL, resV, RetV, RetOk, SubL, intD_B, lotD_B, flowD_B, snocI, snocL, ty_3, ty_27, ty_4, ty_24, ty_40, ty_22, ty_31, issD_get, hd2, hbb]; try simp (disch := omega) only [av_w, av_t1, av_tp, Int.toNat_natCast]))
        refine ⟨k + 1, by omega, by dsimp only; omega, wk_of [(0, some 0)] rfl rfl ?_ ?_⟩
        · simp only [wkT, wkB, wkB1, subV, subVs, subD, subB, lkN_n, lkN_c, lkT_n, lkT_c, lkB_n, lkB_c, if_true, if_false, reduceIte, Nat.reduceEqDiff, true_and, and_true, and_self, inT, ofA]
          (repeat' (first | exact trivial | rfl | exact rfl | exact subVs_d _ _ | exact subVs_dm _ _ | exact subD_refl _ | refine And.intro ?_ ?_))
        · simp only [wkT, wkB, wkB1, subV, subVs, subD, subB, lkN_n, lkN_c, lkT_n, lkT_c, lkB_n, lkB_c, if_true, if_false, reduceIte, Nat.reduceEqDiff, true_and, and_true, and_self, inT, ofA]
          (repeat' (first | exact trivial | rfl | exact rfl | exact subVs_d _ _ | exact subVs_dm _ _ | exact subD_refl _ | refine And.intro ?_ ?_))
      obtain rfl : k = M.length := by omega
      have hd2 := ged (Nat.le_refl M.length)
      repeat' (first
        | (with_reducible refine aw_seq ?_)
        | ((with_reducible refine twoG_intro ?_ ?_) <;> intro hTw <;> first | (exact Bool.noConfusion hTw) | ((try simp only [hTw, Bool.not_true, Bool.not_false, Bool.true_and, Bool.false_and, Bool.and_true, Bool.and_false, Bool.true_or, Bool.false_or, Bool.or_true, Bool.or_false]); (first | (guard_hyp hTw : true = true; clear hTw) | (guard_hyp hTw : false = false; clear hTw) | (revert hTw; intro _))))
        | ((with_reducible refine two_intro ?_ ?_) <;> intro hTw <;> first | (exact Bool.noConfusion hTw) | ((first | (guard_hyp hTw : true = true; clear hTw) | (guard_hyp hTw : false = false; clear hTw) | (revert hTw; intro _))))
        | ((with_reducible refine And.intro ?_ ?_); (focus (first | omega | rfl | decide | grind)))
        | (with_reducible refine aw_block ?_)
        | (with_reducible refine aw_scope ?_)
        | ((first
            | ((with_reducible refine aw_regionA T_ok ?_ ?_); (focus kernel_rfl))
            | ((with_reducible refine aw_drawnA T_ok ?_ ?_ ?_ ?_); (focus kernel_rfl); (focus kernel_rfl); (focus (decide +kernel)))
            | ((with_reducible refine aw_drawnF T_ok ?_ ?_ ?_ ?_); (focus kernel_rfl); (focus kernel_rfl); (focus (decide +kernel)))
            | (with_reducible refine aw_label ?_)
            | ((with_reducible refine aw_rfM ?_ ?_); (focus kernel_rfl))
            | (with_reducible refine aw_skip ?_)
            | (with_reducible refine aw_exit ?_)
            | ((with_reducible refine aw_condM ?_ ?_); (focus kernel_rfl))
            | (with_reducible refine aw_ret ?_)
          ); simp only [↓avP, avQ, if_true, if_false, forall_const, beq_self_eq_true, eq_self, ne_eq, implies_true, reduceIte, Nat.reduceEqDiff, Nat.reduceAdd, Nat.reduceSub, Int.reduceToNat, Nat.reduceLeDiff, Nat.reduceLT, reduceCtorEq, Int.reduceEq, retQ, retL, resV, RetV, RetOk, SubL, intD_B, lotD_B, flowD_B, snocI, snocL, ty_3, ty_27, ty_4, ty_24, ty_40, ty_22, ty_31, issD_get, hd2]; try simp (disch := omega) only [av_w, av_t1, av_tp, Int.toNat_natCast]))
      refine ⟨s + 1, by omega, by dsimp only; omega, wk_of [(0, some 0)] rfl rfl ?_ ?_⟩
      · simp only [wkT, wkB, wkB1, subV, subVs, subD, subB, lkN_n, lkN_c, lkT_n, lkT_c, lkB_n, lkB_c, if_true, if_false, reduceIte, Nat.reduceEqDiff, true_and, and_true, and_self, inT, ofA]
        (repeat' (first | exact trivial | rfl | exact rfl | exact subVs_d _ _ | exact subVs_dm _ _ | exact subD_refl _ | refine And.intro ?_ ?_))
      · simp only [wkT, wkB, wkB1, subV, subVs, subD, subB, lkN_n, lkN_c, lkT_n, lkT_c, lkB_n, lkB_c, if_true, if_false, reduceIte, Nat.reduceEqDiff, true_and, and_true, and_self, inT, ofA]
        (repeat' (first | exact trivial | rfl | exact rfl | exact subVs_d _ _ | exact subVs_dm _ _ | exact subD_refl _ | refine And.intro ?_ ?_))
    obtain rfl : s = E.length := by omega
    have hd := ged (Nat.le_refl E.length)
    repeat' (first
      | (with_reducible refine aw_seq ?_)
      | ((with_reducible refine twoG_intro ?_ ?_) <;> intro hTw <;> first | (exact Bool.noConfusion hTw) | ((try simp only [hTw, Bool.not_true, Bool.not_false, Bool.true_and, Bool.false_and, Bool.and_true, Bool.and_false, Bool.true_or, Bool.false_or, Bool.or_true, Bool.or_false]); (first | (guard_hyp hTw : true = true; clear hTw) | (guard_hyp hTw : false = false; clear hTw) | (revert hTw; intro _))))
      | ((with_reducible refine two_intro ?_ ?_) <;> intro hTw <;> first | (exact Bool.noConfusion hTw) | ((first | (guard_hyp hTw : true = true; clear hTw) | (guard_hyp hTw : false = false; clear hTw) | (revert hTw; intro _))))
      | ((with_reducible refine And.intro ?_ ?_); (focus (first | omega | rfl | decide | grind)))
      | (with_reducible refine aw_block ?_)
      | (with_reducible refine aw_scope ?_)
      | ((first
          | ((with_reducible refine aw_regionA T_ok ?_ ?_); (focus kernel_rfl))
          | ((with_reducible refine aw_drawnA T_ok ?_ ?_ ?_ ?_); (focus kernel_rfl); (focus kernel_rfl); (focus (decide +kernel)))
          | ((with_reducible refine aw_drawnF T_ok ?_ ?_ ?_ ?_); (focus kernel_rfl); (focus kernel_rfl); (focus (decide +kernel)))
          | (with_reducible refine aw_label ?_)
          | ((with_reducible refine aw_rfM ?_ ?_); (focus kernel_rfl))
          | (with_reducible refine aw_skip ?_)
          | (with_reducible refine aw_exit ?_)
          | ((with_reducible refine aw_condM ?_ ?_); (focus kernel_rfl))
          | (with_reducible refine aw_ret ?_)
        ); simp only [↓avP, avQ, if_true, if_false, forall_const, beq_self_eq_true, eq_self, ne_eq, implies_true, reduceIte, Nat.reduceEqDiff, Nat.reduceAdd, Nat.reduceSub, Int.reduceToNat, Nat.reduceLeDiff, Nat.reduceLT, reduceCtorEq, Int.reduceEq, retQ, retL, resV, RetV, RetOk, SubL, intD_B, lotD_B, flowD_B, snocI, snocL, ty_3, ty_27, ty_4, ty_24, ty_40, ty_22, ty_31, issD_get, hd]; try simp (disch := omega) only [av_w, av_t1, av_tp, Int.toNat_natCast]))
    exact Sub.refl _
end Go.Proofs.Ytncihbmehbiekaa


namespace Go.Proofs.Ytncihbmehbiekaa
set_option linter.unusedSimpArgs false
set_option linter.unusedVariables false
open Go.RowKit
theorem sp_take (f : FlowP) (m : Nat) (s : Int) : ∀ k, k ≤ m → spL (takeF f m) s k = spL f s k
  | 0, _ => rfl
  | k + 1, h => by
    rw [spL, spL, sp_take f m s k (by omega), take_bef (by omega), take_at (by omega)]
section
variable {f : FlowP} {x : LotP}
/-- where an end goes by a further lot -/
def phi (b : Int) (x : LotP) (t : Int) : Int := stepF b (idL x) t
theorem idL_inn (x : LotP) : (idL x).inn = x.inn := by unfold idL; split <;> rfl
theorem idL_pl {bef : Int} {gone : List Int} (hg : GoodL bef gone x) : plOK (idL x) := by
  unfold idL
  split
  · rename_i h; exact hg.pl h
  · have := range_plOK x.inn.length
    exact ⟨by simp, this.1, this.2⟩
theorem more_sp (f : FlowP) (x : LotP) (s : Int) {m : Int} : m ∈ spL (moreF f x) s (f.lots.length + 1) ↔ m ∈ spL f s f.lots.length ∨ ∃ j : Nat, j < x.inn.length ∧ m = befF f f.lots.length + j ∧ canB x (spL f s f.lots.length) j = true := by
  have h1 := sp_take (moreF f x) f.lots.length s f.lots.length (Nat.le_refl _)
  rw [take_more] at h1
  have h2 := take_bef (f := moreF f x) (k := f.lots.length) (i := f.lots.length) (Nat.le_refl _)
  rw [take_more] at h2
  rw [mem_spL_succ, more_at, ← h1, ← h2]
theorem more_end (f : FlowP) (x : LotP) {t : Int} : t ∈ endsF (moreF f x) ↔ 0 ≤ t ∧ t < befF f f.lots.length + (x.inn.length : Int) ∧ t ∉ goneF f f.lots.length ∧ t ∉ x.inn := by
  have h2 := take_bef (f := moreF f x) (k := f.lots.length) (i := f.lots.length) (Nat.le_refl _)
  have h3 := take_gone (f := moreF f x) (k := f.lots.length) (i := f.lots.length) (Nat.le_refl _)
  rw [take_more] at h2 h3
  rw [mem_endsF, more_len, befF_succ (by rw [more_len]; omega), goneF_succ (by rw [more_len]; omega), more_at, ← h2, ← h3, List.mem_append, not_or]
theorem more_good (hc : checkF (moreF f x) = 0) : GoodL (befF f f.lots.length) (goneF f f.lots.length) x := by
  have h2 := take_bef (f := moreF f x) (k := f.lots.length) (i := f.lots.length) (Nat.le_refl _)
  have h3 := take_gone (f := moreF f x) (k := f.lots.length) (i := f.lots.length) (Nat.le_refl _)
  rw [take_more] at h2 h3
  have := goodL_at hc (k := f.lots.length) (by rw [more_len]; omega)
  rwa [more_at, ← h2, ← h3] at this
theorem idx_at {l : List Int} (hn : l.Nodup) {i : Nat} (h : i < l.length) : l.idxOf (l.getD i 0) = i := by
  obtain ⟨j1, j2⟩ := idx_get (getD_mem h)
  exact getD_inj hn j1 h j2
theorem phi_in {b : Int} {t : Int} (h : t ∈ x.inn) : phi b x t = b + (idL x).perm.getD (x.inn.idxOf t) 0 := by
  unfold phi stepF
  rw [idL_inn, if_pos h]
theorem phi_out {b : Int} {t : Int} (h : t ∉ x.inn) : phi b x t = t := by
  unfold phi stepF
  rw [idL_inn, if_neg h]
theorem pl_at (hp : plOK (idL x)) {t : Int} (h : t ∈ x.inn) : 0 ≤ (idL x).perm.getD (x.inn.idxOf t) 0 ∧ (idL x).perm.getD (x.inn.idxOf t) 0 < (x.inn.length : Int) := by
  obtain ⟨i1, _⟩ := idx_get h
  have := hp.2.2 _ (getD_mem (show x.inn.idxOf t < (idL x).perm.length by rw [hp.1, idL_inn]; exact i1))
  rwa [idL_inn] at this
theorem phi_inj (hc : checkF (moreF f x) = 0) {t u : Int} (ht : t ∈ endsF f) (hu : u ∈ endsF f) (h : phi (befF f f.lots.length) x t = phi (befF f f.lots.length) x u) : t = u := by
  have hp := idL_pl (more_good hc)
  have t1 := mem_endsF.1 ht
  have u1 := mem_endsF.1 hu
  by_cases e1 : t ∈ x.inn <;> by_cases e2 : u ∈ x.inn
  · rw [phi_in e1, phi_in e2] at h
    obtain ⟨i1, i2⟩ := idx_get e1
    obtain ⟨j1, j2⟩ := idx_get e2
    have := getD_inj hp.2.1 (by rw [hp.1, idL_inn]; exact i1) (by rw [hp.1, idL_inn]; exact j1) (by omega : (idL x).perm.getD (x.inn.idxOf t) 0 = (idL x).perm.getD (x.inn.idxOf u) 0)
    rw [← i2, ← j2, this]
  · have := pl_at hp e1
    rw [phi_in e1, phi_out e2] at h; omega
  · have := pl_at hp e2
    rw [phi_in e2, phi_out e1] at h; omega
  · rwa [phi_out e1, phi_out e2] at h
theorem phi_end (hc : checkF (moreF f x) = 0) {s t : Int} (h : t ∈ endS f s) : phi (befF f f.lots.length) x t ∈ endS (moreF f x) s := by
  have hg := more_good hc
  have hp := idL_pl hg
  obtain ⟨h1, h2⟩ := mem_endS.1 h
  have h1 := mem_endsF.1 h1
  rw [mem_endS, more_end, more_len, more_sp]
  by_cases e : t ∈ x.inn
  · have hb := pl_at hp e
    obtain ⟨i1, i2⟩ := idx_get e
    rw [phi_in e]
    have hlow : ∀ u, 0 ≤ u → u < befF f f.lots.length → befF f f.lots.length + (idL x).perm.getD (x.inn.idxOf t) 0 ≠ u := fun u _ _ => by omega
    refine ⟨⟨by omega, by omega, fun hm => ?_, fun hm => ?_⟩, .inr ⟨((idL x).perm.getD (x.inn.idxOf t) 0).toNat, by omega, by omega, ?_⟩⟩
    · have hc1 := more_check hc
      have := gone_lt hc1 (k := f.lots.length) (Nat.le_refl _) _ hm
      omega
    · have := hg.fr _ hm
      omega
    · refine canB_iff.2 ⟨_, i1, by rw [i2]; exact h2, ?_⟩
      by_cases hk : x.known = true
      · rw [idL, if_pos hk] at hb ⊢
        exact .inr (by omega)
      · exact .inl (by simpa using hk)
  · rw [phi_out e]
    exact ⟨⟨h1.1, by omega, h1.2.2, e⟩, .inl h2⟩
theorem end_phi (hc : checkF (moreF f x) = 0) (hk : x.known = true) {s : Nat} (hs : (s : Int) < f.senders) {u : Int} (h : u ∈ endS (moreF f x) s) : ∃ t, t ∈ endS f s ∧ phi (befF f f.lots.length) x t = u := by
  have hg := more_good hc
  have hp := idL_pl hg
  have hc1 := more_check hc
  rw [mem_endS, more_end, more_len, more_sp] at h
  obtain ⟨⟨h1, h2, h3, h4⟩, h5⟩ := h
  rcases h5 with h5 | ⟨j, j1, j2, j3⟩
  · have hb := (spW_set hc1 hs f.lots.length (Nat.le_refl _)).2 u h5
    exact ⟨u, mem_endS.2 ⟨mem_endsF.2 ⟨h1, hb.2, h3⟩, h5⟩, phi_out h4⟩
  · obtain ⟨i, i1, i2, i3⟩ := canB_iff.1 j3
    have i3 := i3.resolve_left (by rw [hk]; simp)
    have hm := getD_mem i1
    have hfr := hg.fr _ hm
    refine ⟨_, mem_endS.2 ⟨mem_endsF.2 ⟨hfr.1, hfr.2.1, hfr.2.2⟩, i2⟩, ?_⟩
    rw [phi_in hm, idx_at hg.nd i1, idL, if_pos hk, i3, j2]
theorem map_nodup {l : List Int} {p : Int → Int} (h : l.Nodup) (hp : ∀ a ∈ l, ∀ b ∈ l, p a = p b → a = b) : (l.map p).Nodup := by
  induction l with
  | nil => simp
  | cons a l ih =>
    rw [List.nodup_cons] at h
    rw [List.map_cons, List.nodup_cons]
    refine ⟨fun hm => ?_, ih h.2 fun a ha b hb => hp a (List.mem_cons_of_mem _ ha) b (List.mem_cons_of_mem _ hb)⟩
    obtain ⟨b, hb, e⟩ := List.mem_map.1 hm
    have := hp b (List.mem_cons_of_mem _ hb) a (by simp) e
    subst this
    exact h.1 hb
theorem endS_nd (f : FlowP) (s : Int) : (endS f s).Nodup := List.Pairwise.imp (fun {a b} h => by omega) (endS_lt f s)
theorem grows (hc : checkF (moreF f x) = 0) {s : Nat} (hs : (s : Int) < f.senders) : (endS f s).length ≤ (endS (moreF f x) s).length ∧ (x.known = true → (endS (moreF f x) s).length = (endS f s).length) := by
  have hnd : ((endS f s).map (phi (befF f f.lots.length) x)).Nodup := map_nodup (endS_nd f s) fun a ha b hb => phi_inj hc (mem_endS.1 ha).1 (mem_endS.1 hb).1
  have h1 : (endS f s).length ≤ (endS (moreF f x) s).length := by
    have := hnd.length_le_of_subset (l₂ := endS (moreF f x) s) fun u hu => by
      obtain ⟨t, ht, rfl⟩ := List.mem_map.1 hu
      exact phi_end hc ht
    rwa [List.length_map] at this
  refine ⟨h1, fun hk => ?_⟩
  have := (endS_nd (moreF f x) s).length_le_of_subset (l₂ := (endS f s).map (phi (befF f f.lots.length) x)) fun u hu => by
    obtain ⟨t, ht, e⟩ := end_phi hc hk hs hu
    exact List.mem_map.2 ⟨t, ht, e⟩
  rw [List.length_map] at this
  omega
end
end Go.Proofs.Ytncihbmehbiekaa


namespace Go.Proofs.Ytncihbmehbiekaa
set_option linter.unusedSimpArgs false
open Go.ChangeShapes Go.WideShapes Go.ChangeAt Go.RowKit
set_option linter.unusedVariables false
section
variable {α : Type} {P : Program} {t e : TypeId} {sz : Nat} {enc : α → List D} {ok : α → Prop}
/-- a row with the bound on its bytes -/
def RSN (n sz : Nat) (R : RepT α) : RepT (List α) := fun F w l cs => RS sz R F w l cs ∧ l.length * n ≤ 140737488351232
theorem opens_sliceB {R : RepT α} (n : Nat) (g : Good sz R) (ho : Opens P e R) (hu : P.underlying t = some (.slice e)) (hc : P.cellsOf e = sz) (hpos : 0 < sz) (hb : 1 ≤ P.bytesOf e) (hn : n ≤ P.bytesOf e) : Opens P t (RSN n sz R) := by
  intro H en W k cs x h hw
  obtain ⟨l, hl⟩ := opens_slice g ho hu hc hpos hb h hw
  refine ⟨l, hl, ?_⟩
  obtain ⟨a0, cap0, hcs, _⟩ := hl
  rcases DataW.trod_slice hu h with ⟨rfl, _⟩ | ⟨a, len, cap, elems, rest, m, rfl, rfl, rfl, _, _, _, hlen, _, _, _⟩
  · simp only [List.cons.injEq, Value.slice.injEq] at hcs
    have : l.length = 0 := by omega
    rw [this]; omega
  · simp only [List.cons.injEq, Value.slice.injEq] at hcs
    simp only [DataW.weights, hu] at hw
    have hsz := hw _ (List.mem_cons_self ..)
    rw [List.length_map, List.length_map] at hsz
    unfold reachBytes at hsz
    have h1 : l.length ≤ elems.length + rest.length := by omega
    have h2 := Nat.mul_le_mul h1 hn
    rw [Nat.mul_comm] at hsz
    first | omega | (rw [Nat.mul_comm] at hsz; omega)
theorem ore_sliceB (n : Nat) (d0 : List D) (hl : ∀ x, (enc x).length = sz) (ho : Opens P e (RE enc ok)) (hu : P.underlying t = some (.slice e)) (hc : P.cellsOf e = sz) (hpos : 0 < sz) (hb : 1 ≤ P.bytesOf e) (hn : n ≤ P.bytesOf e) :
    Opens P t (RE (fun l : List α => [.sl sz d0 (l.map enc)]) (fun l => (l.length ≤ 140737488351232 ∧ ∀ x ∈ l, ok x) ∧ l.length * n ≤ 140737488351232)) :=
  opens_map (f := fun l : List α => l) (opens_sliceB n (good_re hl) ho hu hc hpos hb hn) fun {F w x cs} h => by
    obtain ⟨⟨a, cap, rfl, h1, h2, h3⟩, h4⟩ := h
    obtain ⟨k1, k2⟩ := rr_of hl h3
    refine ⟨⟨⟨h2, k2⟩, h4⟩, ⟨_, _, rfl, ⟨a, cap, by rw [List.length_map], by simpa using h1, by simpa using h2, k1⟩, rfl⟩, by simp [Value.oneCell']⟩
end
end Go.Proofs.Ytncihbmehbiekaa


namespace Go.Proofs.Ytncihbmehbiekaa
set_option linter.unusedSimpArgs false
set_option linter.unusedVariables false
open Go.ChangeShapes Go.WideShapes Go.ChangeAt Go.RowKit
def OkFB (f : FlowP) : Prop := OkF f ∧ f.lots.length * 56 ≤ 140737488351232
theorem opens_lotsB : Opens Try.prog 22 (RE (fun l : List LotP => [.sl 3 (lotD default) (l.map lotD)]) (fun l => (l.length ≤ 140737488351232 ∧ ∀ x ∈ l, OkL x) ∧ l.length * 56 ≤ 140737488351232)) :=
  ore_sliceB (sz := 3) 56 (lotD default) (by intro x; rfl) opens_lot Try.underlying22 (by kernel_rfl) (by decide) (Nat.le_of_ble_eq_true (by kernel_rfl)) (Nat.le_of_ble_eq_true (by kernel_rfl))
theorem opens_flowB : Opens Try.prog 24 (RE flowD OkFB) :=
  ore_map (f := fun x : Int × List LotP × Unit => (⟨x.1, x.2.1⟩ : FlowP))
    (opens_struct Try.underlying24 (by kernel_rfl)
      (oreL_1 (ore_int Try.underlying3) (by intro x; rfl) (by kernel_rfl) rfl (by simp) (oreL_1 opens_lotsB (by intro x; rfl) (by kernel_rfl) rfl (by simp) oreL_nil)))
    (by intro x; rfl) (by rintro x ⟨h1, h2, _⟩; exact ⟨⟨wf_int64 h1, h2.1.1, h2.1.2⟩, h2.2⟩)
end Go.Proofs.Ytncihbmehbiekaa

