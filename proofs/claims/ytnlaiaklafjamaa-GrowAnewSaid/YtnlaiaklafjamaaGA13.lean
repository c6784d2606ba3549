import Derived.Test.YtnlaiaklafjamaaGA12
import Derived.Test.YtnlaiaklafjamaaGA6
namespace Go.Proofs.Ytnlaiaklafjamaa
set_option linter.unusedSimpArgs false
set_option linter.unusedVariables false
open Go.RowKit
set_option maxRecDepth 100000
set_option maxHeartbeats 4000000
theorem wmatrix_spec (f : FlowP) (hf : OkF f) : Spec Try.prog 18 [.agg (flowD f)] (.rt [aIss (matR f), aI (checkF f)]) := by
  refine spec_of T_ok Try.func18 (by dsimp only [Try.f18]) rfl rfl (by simp) fun w F => ?_
  have hE := fends_spec f hf
  by_cases hc : checkF f = 0
  rotate_left
  · have hd : (checkF f != 0) = true := by simpa using hc
    repeat' (first
      | (with_reducible refine aw_seq ?_)
      | ((with_reducible refine twoG_intro ?_ ?_) <;> intro hTw <;> first | (exact Bool.noConfusion hTw) | ((try simp only [hTw, Bool.not_true, Bool.not_false, Bool.true_and, Bool.false_and, Bool.and_true, Bool.and_false, Bool.true_or, Bool.false_or, Bool.or_true, Bool.or_false]); (first | (guard_hyp hTw : true = true; clear hTw) | (guard_hyp hTw : false = false; clear hTw) | (revert hTw; intro _))))
      | ((with_reducible refine two_intro ?_ ?_) <;> intro hTw <;> first | (exact Bool.noConfusion hTw) | ((first | (guard_hyp hTw : true = true; clear hTw) | (guard_hyp hTw : false = false; clear hTw) | (revert hTw; intro _))))
      | ((with_reducible refine And.intro ?_ ?_); (focus (first | omega | rfl | decide | grind)))
      | (with_reducible refine aw_block ?_)
      | (with_reducible refine aw_scope ?_)
      | ((first
          | ((with_reducible refine aw_regionA T_ok ?_ ?_); (focus kernel_rfl))
          | ((with_reducible refine aw_drawnA T_ok ?_ ?_ ?_ ?_); (focus kernel_rfl); (focus kernel_rfl); (focus (decide +kernel)))
          | ((with_reducible refine aw_drawnF T_ok ?_ ?_ ?_ ?_); (focus kernel_rfl); (focus kernel_rfl); (focus (decide +kernel)))
          | ((with_reducible refine callK_intro (hE) (by with_unfolding_all rfl) ?_ ?_); (focus kernel_rfl))
          | ((with_reducible refine callI_spec (hE) (by with_unfolding_all rfl) ?_ ?_ ?_); (focus kernel_rfl); (focus kernel_rfl))
          | (with_reducible refine aw_label ?_)
          | ((with_reducible refine aw_rfM ?_ ?_); (focus kernel_rfl))
          | (with_reducible refine aw_skip ?_)
          | (with_reducible refine aw_exit ?_)
          | ((with_reducible refine aw_condM ?_ ?_); (focus kernel_rfl))
          | (with_reducible refine aw_ret ?_)
        ); simp only [↓avP, avQ, if_true, if_false, forall_const, beq_self_eq_true, eq_self, ne_eq, implies_true, reduceIte, Nat.reduceEqDiff, Nat.reduceAdd, Nat.reduceSub, Int.reduceToNat, Nat.reduceLeDiff, Nat.reduceLT, reduceCtorEq, Int.reduceEq, retQ, retL, resV, RetV, RetOk, SubL, intD_B, u64D_B, lotD_B, flowD_B, snocI, snocL, snocIsW, ty_3, ty_91, ty_84, ty_28, ty_4, ty_24, ty_30, ty_22, ty_25, hd]; try simp (disch := omega) only [av_w, av_t1, av_tp, Int.toNat_natCast]))
    rw [matR, if_neg hc]
    exact ⟨Sub.nil _ _, Sub.refl _⟩
  rw [hc] at hE ⊢
  rw [show endsR f = endsF f by rw [endsR, if_pos hc]] at hE
  have hEl := endsF_le hc
  have hh := fun {n : Nat} (hn : (n : Int) < f.senders) {t : Int} (ht : t ∈ endsF f) => has_end (n := n) hc hn ht
  obtain ⟨z1, z2, z3, z4, z5⟩ := checkF_zero hc
  obtain ⟨N, hN⟩ : ∃ N : Nat, f.senders = N := ⟨f.senders.toNat, by omega⟩
  have hR : matR f = matA f N := by rw [matR, if_pos hc, hN]; rfl
  have hend : ∀ n : Nat, endS f n = (endsF f).filter fun t => decide (t ∈ spL f n f.lots.length) := fun n => rfl
  obtain ⟨E, hEe⟩ : ∃ E, E = endsF f := ⟨_, rfl⟩
  simp only [← hEe] at hE hEl hh hend
  repeat' (first
    | (with_reducible refine aw_seq ?_)
    | ((with_reducible refine twoG_intro ?_ ?_) <;> intro hTw <;> first | (exact Bool.noConfusion hTw) | ((try simp only [hTw, Bool.not_true, Bool.not_false, Bool.true_and, Bool.false_and, Bool.and_true, Bool.and_false, Bool.true_or, Bool.false_or, Bool.or_true, Bool.or_false]); (first | (guard_hyp hTw : true = true; clear hTw) | (guard_hyp hTw : false = false; clear hTw) | (revert hTw; intro _))))
    | ((with_reducible refine two_intro ?_ ?_) <;> intro hTw <;> first | (exact Bool.noConfusion hTw) | ((first | (guard_hyp hTw : true = true; clear hTw) | (guard_hyp hTw : false = false; clear hTw) | (revert hTw; intro _))))
    | ((with_reducible refine And.intro ?_ ?_); (focus (first | omega | rfl | decide | grind)))
    | (with_reducible refine aw_block ?_)
    | (with_reducible refine aw_scope ?_)
    | ((first
        | ((with_reducible refine aw_regionA T_ok ?_ ?_); (focus kernel_rfl))
        | ((with_reducible refine aw_drawnA T_ok ?_ ?_ ?_ ?_); (focus kernel_rfl); (focus kernel_rfl); (focus (decide +kernel)))
        | ((with_reducible refine aw_drawnF T_ok ?_ ?_ ?_ ?_); (focus kernel_rfl); (focus kernel_rfl); (focus (decide +kernel)))
        | ((with_reducible refine callK_intro (hE) (by with_unfolding_all rfl) ?_ ?_); (focus kernel_rfl))
        | ((with_reducible refine callI_spec (hE) (by with_unfolding_all rfl) ?_ ?_ ?_); (focus kernel_rfl); (focus kernel_rfl))
        | (with_reducible refine aw_label ?_)
        | ((with_reducible refine aw_rfM ?_ ?_); (focus kernel_rfl))
        | (with_reducible refine aw_skip ?_)
        | (with_reducible refine aw_exit ?_)
        | ((with_reducible refine aw_condM ?_ ?_); (focus kernel_rfl))
        | (with_reducible refine aw_ret ?_)
      ); simp only [↓avP, avQ, if_true, if_false, forall_const, beq_self_eq_true, eq_self, ne_eq, implies_true, reduceIte, Nat.reduceEqDiff, Nat.reduceAdd, Nat.reduceSub, Int.reduceToNat, Nat.reduceLeDiff, Nat.reduceLT, reduceCtorEq, Int.reduceEq, retQ, retL, resV, RetV, RetOk, SubL, intD_B, u64D_B, lotD_B, flowD_B, snocI, snocL, snocIsW, ty_3, ty_91, ty_84, ty_28, ty_4, ty_24, ty_30, ty_22, ty_25]; try simp (disch := omega) only [av_w, av_t1, av_tp, Int.toNat_natCast]))
  refine aw_loopI (fun s : Nat => ⟨[(1, .ptr 0 0), (2, .ow 1 1 (issD []) ((matA f s).map issD)), (4, vIs E), (15, vI f.senders), (16, vI s)], [(1, .tok 28 1 (matA f s).length), (0, .cells 24 (dV (flowD f)))], 2⟩)
    (fun s => s ≤ N) (fun s => N - s) 0 (Nat.zero_le _) (wk_of [(0, some 0), (1, none)] rfl rfl ?_ ?_) ?_
  · simp only [wkT, wkB, wkB1, subV, subVs, subD, subB, lkN_n, lkN_c, lkT_n, lkT_c, lkB_n, lkB_c, if_true, if_false, reduceIte, Nat.reduceEqDiff, true_and, and_true, and_self, inT, ofA]
    (repeat' (first | exact trivial | rfl | exact rfl | exact subVs_d _ _ | exact subVs_dm _ _ | exact subD_refl _ | refine And.intro ?_ ?_))
  · simp only [wkT, wkB, wkB1, subV, subVs, subD, subB, lkN_n, lkN_c, lkT_n, lkT_c, lkB_n, lkB_c, if_true, if_false, reduceIte, Nat.reduceEqDiff, true_and, and_true, and_self, inT, ofA]
    (repeat' (first | exact trivial | rfl | exact rfl | exact subVs_d _ _ | exact subVs_dm _ _ | exact subD_refl _ | refine And.intro ?_ ?_))
  intro s hs
  have hml := matA_len f s
  have hms := matA_succ f s
  rcases Nat.lt_or_ge s N with hlt | hge
  · have hd2 : decide ((s : Int) < f.senders) = true := decide_eq_true (by omega)
    have hh := fun {t : Int} (ht : t ∈ E) => hh (n := s) (by omega) ht
    have hsp := wspots_spec f s hf hc (by omega)
    have hend := hend s
    obtain ⟨p, hp⟩ : ∃ p : Int → Bool, p = fun t => decide (t ∈ spL f s f.lots.length) := ⟨_, rfl⟩
    obtain ⟨ws, hws⟩ : ∃ ws, ws = spW f s f.lots.length := ⟨_, rfl⟩
    have hh : ∀ {t : Int}, t ∈ E → Spec Try.prog 50 [aWs ws, aI t] (.r1 (aB (p t))) := fun {t} ht => by
      rw [hws, hp]; exact hh ht
    rw [← hp] at hend
    rw [← hws] at hsp
    repeat' (first
      | (with_reducible refine aw_seq ?_)
      | ((with_reducible refine twoG_intro ?_ ?_) <;> intro hTw <;> first | (exact Bool.noConfusion hTw) | ((try simp only [hTw, Bool.not_true, Bool.not_false, Bool.true_and, Bool.false_and, Bool.and_true, Bool.and_false, Bool.true_or, Bool.false_or, Bool.or_true, Bool.or_false]); (first | (guard_hyp hTw : true = true; clear hTw) | (guard_hyp hTw : false = false; clear hTw) | (revert hTw; intro _))))
      | ((with_reducible refine two_intro ?_ ?_) <;> intro hTw <;> first | (exact Bool.noConfusion hTw) | ((first | (guard_hyp hTw : true = true; clear hTw) | (guard_hyp hTw : false = false; clear hTw) | (revert hTw; intro _))))
      | ((with_reducible refine And.intro ?_ ?_); (focus (first | omega | rfl | decide | grind)))
      | (with_reducible refine aw_block ?_)
      | (with_reducible refine aw_scope ?_)
      | ((first
          | ((with_reducible refine aw_regionA T_ok ?_ ?_); (focus kernel_rfl))
          | ((with_reducible refine aw_drawnA T_ok ?_ ?_ ?_ ?_); (focus kernel_rfl); (focus kernel_rfl); (focus (decide +kernel)))
          | ((with_reducible refine aw_drawnF T_ok ?_ ?_ ?_ ?_); (focus kernel_rfl); (focus kernel_rfl); (focus (decide +kernel)))
          | ((with_reducible apply callI_in T_ok Try.func36); (focus (dsimp only [Try.f36])); (focus rfl); (focus rfl); (focus kernel_rfl); (focus exact of_decide_eq_true (by kernel_rfl)); (focus kernel_rfl); (focus kernel_rfl); intro _)
          | ((with_reducible apply callI_in T_ok Try.func35); (focus (dsimp only [Try.f35])); (focus rfl); (focus rfl); (focus kernel_rfl); (focus exact of_decide_eq_true (by kernel_rfl)); (focus kernel_rfl); (focus kernel_rfl); intro _)
          | ((with_reducible apply callI_in T_ok Try.func47); (focus (dsimp only [Try.f47])); (focus rfl); (focus rfl); (focus kernel_rfl); (focus exact of_decide_eq_true (by kernel_rfl)); (focus kernel_rfl); (focus kernel_rfl); intro _)
          | ((with_reducible apply rfI_in Try.func48); (focus (dsimp only [Try.f48])); (focus (dsimp only [Base.inn, Base.inr])); (focus rfl); (focus rfl); (focus kernel_rfl); (focus exact of_decide_eq_true (by kernel_rfl)); (focus kernel_rfl); intro aL L hLp hLa hLb hLt)
          | ((with_reducible refine callK_intro (hsp) (by with_unfolding_all rfl) ?_ ?_); (focus kernel_rfl))
          | ((with_reducible refine callI_spec (hsp) (by with_unfolding_all rfl) ?_ ?_ ?_); (focus kernel_rfl); (focus kernel_rfl))
          | (with_reducible refine aw_label ?_)
          | ((with_reducible refine aw_rfM ?_ ?_); (focus kernel_rfl))
          | (with_reducible refine aw_skip ?_)
          | (with_reducible refine aw_exit ?_)
          | ((with_reducible refine aw_condM ?_ ?_); (focus kernel_rfl))
          | (with_reducible refine aw_ret ?_)
        ); simp only [↓avP, avQ, if_true, if_false, forall_const, beq_self_eq_true, eq_self, ne_eq, implies_true, reduceIte, Nat.reduceEqDiff, Nat.reduceAdd, Nat.reduceSub, Int.reduceToNat, Nat.reduceLeDiff, Nat.reduceLT, reduceCtorEq, Int.reduceEq, retQ, retL, resV, RetV, RetOk, SubL, intD_B, u64D_B, lotD_B, flowD_B, snocI, snocL, snocIsW, ty_3, ty_91, ty_84, ty_28, ty_4, ty_24, ty_30, ty_22, ty_25, hd2]; try simp (disch := omega) only [av_w, av_t1, av_tp, Int.toNat_natCast]))
    refine aw_loopI (fun k : Nat => ⟨[(0, .yl 7), (5, .d (.sl 1 (u64D 0) (ws.map u64D))), (11, vIs E), (12, vI E.length), (13, vI k), (29, .ptr 6 0), (46, .ptr 0 0), (47, .ow 1 1 (issD []) ((matA f s).map issD)), (49, vIs E), (60, vI f.senders), (61, vI s), (64, .ow 1 1 (issD []) ((matA f s).map issD))],
        [(7, .loop L .ready none), (6, .cells 28 [.ow 8 1 (intD 0) (((E.take k).filter p).map intD)]), (8, .tok 3 1 ((E.take k).filter p).length), (1, .tok 28 1 (matA f s).length), (0, .cells 24 (dV (flowD f)))], 9⟩)
      (fun k => k ≤ E.length) (fun k => E.length - k) 0 (Nat.zero_le _) (wk_of [(0, some 0), (1, some 1), (6, some 5), (7, some 6), (8, none)] rfl rfl ?_ ?_) ?_
    · simp only [wkT, wkB, wkB1, subV, subVs, subD, subB, lkN_n, lkN_c, lkT_n, lkT_c, lkB_n, lkB_c, if_true, if_false, reduceIte, Nat.reduceEqDiff, true_and, and_true, and_self, inT, ofA]
      (repeat' (first | exact trivial | rfl | exact rfl | exact subVs_d _ _ | exact subVs_dm _ _ | exact subD_refl _ | refine And.intro ?_ ?_))
    · simp only [wkT, wkB, wkB1, subV, subVs, subD, subB, lkN_n, lkN_c, lkT_n, lkT_c, lkB_n, lkB_c, if_true, if_false, reduceIte, Nat.reduceEqDiff, true_and, and_true, and_self, inT, ofA]
      (repeat' (first | exact trivial | rfl | exact rfl | exact subVs_d _ _ | exact subVs_dm _ _ | exact subD_refl _ | refine And.intro ?_ ?_))
    intro k hk
    have hfl := filter_lenW E p k
    have hfs := fun h => filter_succW (l := E) p (k := k) h
    obtain ⟨X, hX⟩ : ∃ X, X = (E.take k).filter p := ⟨_, rfl⟩
    rw [← hX] at hfl hfs ⊢
    rcases Nat.lt_or_ge k E.length with hlt | hge
    · have hd2 := ltd hlt
      have hfs := hfs hlt
      have h1 := hh (getD_mem hlt)
      cases hb : p (E.getD k 0) with
      | true =>
        rw [hb] at h1
        rw [if_pos hb] at hfs
        repeat' (first
          | (with_reducible refine aw_seq ?_)
          | ((with_reducible refine twoG_intro ?_ ?_) <;> intro hTw <;> first | (exact Bool.noConfusion hTw) | ((try simp only [hTw, Bool.not_true, Bool.not_false, Bool.true_and, Bool.false_and, Bool.and_true, Bool.and_false, Bool.true_or, Bool.false_or, Bool.or_true, Bool.or_false]); (first | (guard_hyp hTw : true = true; clear hTw) | (guard_hyp hTw : false = false; clear hTw) | (revert hTw; intro _))))
          | ((with_reducible refine two_intro ?_ ?_) <;> intro hTw <;> first | (exact Bool.noConfusion hTw) | ((first | (guard_hyp hTw : true = true; clear hTw) | (guard_hyp hTw : false = false; clear hTw) | (revert hTw; intro _))))
          | ((with_reducible refine And.intro ?_ ?_); (focus (first | omega | rfl | decide | grind)))
          | (with_reducible refine aw_block ?_)
          | (with_reducible refine aw_scope ?_)
          | ((first
              | ((with_reducible refine aw_regionA T_ok ?_ ?_); (focus kernel_rfl))
              | ((with_reducible refine aw_drawnA T_ok ?_ ?_ ?_ ?_); (focus kernel_rfl); (focus kernel_rfl); (focus (decide +kernel)))
              | ((with_reducible refine aw_drawnF T_ok ?_ ?_ ?_ ?_); (focus kernel_rfl); (focus kernel_rfl); (focus (decide +kernel)))
              | ((with_reducible refine callK_intro (h1) (by with_unfolding_all rfl) ?_ ?_); (focus kernel_rfl))
              | ((with_reducible refine callI_spec (h1) (by with_unfolding_all rfl) ?_ ?_ ?_); (focus kernel_rfl); (focus kernel_rfl))
              | ((with_reducible apply yieldI_in 0 0 (hL1 := hLp) (hL2 := hLa) (hL3 := hLb) (hsz := hLt.1)); (focus rfl); (focus rfl); (focus rfl); (focus kernel_rfl); (focus (dsimp only [Base.inn, Base.inr])); (focus exact (fun t ht => (hLt.2 t ht).trans (by rw [Nat.zero_add]; rfl))); (focus kernel_rfl); intro _)
              | (with_reducible refine aw_label ?_)
              | ((with_reducible refine aw_rfM ?_ ?_); (focus kernel_rfl))
              | (with_reducible refine aw_skip ?_)
              | (with_reducible refine aw_exit ?_)
              | ((with_reducible refine aw_condM ?_ ?_); (focus kernel_rfl))
              | (with_reducible refine aw_ret ?_)
            ); simp only [↓avP, avQ, if_true, if_false, forall_const, beq_self_eq_true, eq_self, ne_eq, implies_true, reduceIte, Nat.reduceEqDiff, Nat.reduceAdd, Nat.reduceSub, Int.reduceToNat, Nat.reduceLeDiff, Nat.reduceLT, reduceCtorEq, Int.reduceEq, retQ, retL, resV, RetV, RetOk, SubL, intD_B, u64D_B, lotD_B, flowD_B, snocI, snocL, snocIsW, ty_3, ty_91, ty_84, ty_28, ty_4, ty_24, ty_30, ty_22, ty_25, hd2]; try simp (disch := omega) only [av_w, av_t1, av_tp, Int.toNat_natCast]))
        refine ⟨k + 1, by omega, by dsimp only; omega, wk_of [(0, some 0), (1, some 1), (6, some 6), (7, some 7), (8, some 10)] rfl rfl ?_ ?_⟩
        · simp only [wkT, wkB, wkB1, subV, subVs, subD, subB, lkN_n, lkN_c, lkT_n, lkT_c, lkB_n, lkB_c, if_true, if_false, reduceIte, Nat.reduceEqDiff, true_and, and_true, and_self, inT, ofA]
          (repeat' (first | exact trivial | rfl | exact rfl | exact subVs_d _ _ | exact subVs_dm _ _ | exact subD_refl _ | refine And.intro ?_ ?_))
        · simp only [wkT, wkB, wkB1, subV, subVs, subD, subB, lkN_n, lkN_c, lkT_n, lkT_c, lkB_n, lkB_c, if_true, if_false, reduceIte, Nat.reduceEqDiff, true_and, and_true, and_self, inT, ofA]
          rw [hfs]
          (repeat' (first | ((simp; done)) | exact trivial | rfl | exact rfl | exact subVs_d _ _ | exact subVs_dm _ _ | exact subD_refl _ | refine And.intro ?_ ?_))
      | false =>
        rw [hb] at h1
        rw [if_neg (by rw [hb]; simp)] at hfs
        repeat' (first
          | (with_reducible refine aw_seq ?_)
          | ((with_reducible refine twoG_intro ?_ ?_) <;> intro hTw <;> first | (exact Bool.noConfusion hTw) | ((try simp only [hTw, Bool.not_true, Bool.not_false, Bool.true_and, Bool.false_and, Bool.and_true, Bool.and_false, Bool.true_or, Bool.false_or, Bool.or_true, Bool.or_false]); (first | (guard_hyp hTw : true = true; clear hTw) | (guard_hyp hTw : false = false; clear hTw) | (revert hTw; intro _))))
          | ((with_reducible refine two_intro ?_ ?_) <;> intro hTw <;> first | (exact Bool.noConfusion hTw) | ((first | (guard_hyp hTw : true = true; clear hTw) | (guard_hyp hTw : false = false; clear hTw) | (revert hTw; intro _))))
          | ((with_reducible refine And.intro ?_ ?_); (focus (first | omega | rfl | decide | grind)))
          | (with_reducible refine aw_block ?_)
          | (with_reducible refine aw_scope ?_)
          | ((first
              | ((with_reducible refine aw_regionA T_ok ?_ ?_); (focus kernel_rfl))
              | ((with_reducible refine aw_drawnA T_ok ?_ ?_ ?_ ?_); (focus kernel_rfl); (focus kernel_rfl); (focus (decide +kernel)))
              | ((with_reducible refine aw_drawnF T_ok ?_ ?_ ?_ ?_); (focus kernel_rfl); (focus kernel_rfl); (focus (decide +kernel)))
              | ((with_reducible refine callK_intro (h1) (by with_unfolding_all rfl) ?_ ?_); (focus kernel_rfl))
              | ((with_reducible refine callI_spec (h1) (by with_unfolding_all rfl) ?_ ?_ ?_); (focus kernel_rfl); (focus kernel_rfl))
              | ((with_reducible refine callK_skip (.r1 (aB true)) (by with_unfolding_all rfl) ?_ ?_); (focus kernel_rfl))
              | ((with_reducible apply yieldI_in 0 0 (hL1 := hLp) (hL2 := hLa) (hL3 := hLb) (hsz := hLt.1)); (focus rfl); (focus rfl); (focus rfl); (focus kernel_rfl); (focus (dsimp only [Base.inn, Base.inr])); (focus exact (fun t ht => (hLt.2 t ht).trans (by rw [Nat.zero_add]; rfl))); (focus kernel_rfl); intro _)
              | (with_reducible refine aw_label ?_)
              | ((with_reducible refine aw_rfM ?_ ?_); (focus kernel_rfl))
              | (with_reducible refine aw_skip ?_)
              | (with_reducible refine aw_exit ?_)
              | ((with_reducible refine aw_condM ?_ ?_); (focus kernel_rfl))
              | (with_reducible refine aw_ret ?_)
            ); simp only [↓avP, avQ, if_true, if_false, forall_const, beq_self_eq_true, eq_self, ne_eq, implies_true, reduceIte, Nat.reduceEqDiff, Nat.reduceAdd, Nat.reduceSub, Int.reduceToNat, Nat.reduceLeDiff, Nat.reduceLT, reduceCtorEq, Int.reduceEq, retQ, retL, resV, RetV, RetOk, SubL, intD_B, u64D_B, lotD_B, flowD_B, snocI, snocL, snocIsW, ty_3, ty_91, ty_84, ty_28, ty_4, ty_24, ty_30, ty_22, ty_25, hd2]; try simp (disch := omega) only [av_w, av_t1, av_tp, Int.toNat_natCast]))
        refine ⟨k + 1, by omega, by dsimp only; omega, wk_of [(0, some 0), (1, some 1), (6, some 6), (7, some 7), (8, some 8)] rfl rfl ?_ ?_⟩
        · simp only [wkT, wkB, wkB1, subV, subVs, subD, subB, lkN_n, lkN_c, lkT_n, lkT_c, lkB_n, lkB_c, if_true, if_false, reduceIte, Nat.reduceEqDiff, true_and, and_true, and_self, inT, ofA]
          (repeat' (first | exact trivial | rfl | exact rfl | exact subVs_d _ _ | exact subVs_dm _ _ | exact subD_refl _ | refine And.intro ?_ ?_))
        · simp only [wkT, wkB, wkB1, subV, subVs, subD, subB, lkN_n, lkN_c, lkT_n, lkT_c, lkB_n, lkB_c, if_true, if_false, reduceIte, Nat.reduceEqDiff, true_and, and_true, and_self, inT, ofA]
          rw [hfs]
          (repeat' (first | exact trivial | rfl | exact rfl | exact subVs_d _ _ | exact subVs_dm _ _ | exact subD_refl _ | refine And.intro ?_ ?_))
    obtain rfl : k = E.length := by omega
    have hd2 := ged (Nat.le_refl E.length)
    rw [List.take_length, ← hend] at hX
    repeat' (first
      | (with_reducible refine aw_seq ?_)
      | ((with_reducible refine twoG_intro ?_ ?_) <;> intro hTw <;> first | (exact Bool.noConfusion hTw) | ((try simp only [hTw, Bool.not_true, Bool.not_false, Bool.true_and, Bool.false_and, Bool.and_true, Bool.and_false, Bool.true_or, Bool.false_or, Bool.or_true, Bool.or_false]); (first | (guard_hyp hTw : true = true; clear hTw) | (guard_hyp hTw : false = false; clear hTw) | (revert hTw; intro _))))
      | ((with_reducible refine two_intro ?_ ?_) <;> intro hTw <;> first | (exact Bool.noConfusion hTw) | ((first | (guard_hyp hTw : true = true; clear hTw) | (guard_hyp hTw : false = false; clear hTw) | (revert hTw; intro _))))
      | ((with_reducible refine And.intro ?_ ?_); (focus (first | omega | rfl | decide | grind)))
      | (with_reducible refine aw_block ?_)
      | (with_reducible refine aw_scope ?_)
      | ((first
          | ((with_reducible refine aw_regionA T_ok ?_ ?_); (focus kernel_rfl))
          | ((with_reducible refine aw_drawnA T_ok ?_ ?_ ?_ ?_); (focus kernel_rfl); (focus kernel_rfl); (focus (decide +kernel)))
          | ((with_reducible refine aw_drawnF T_ok ?_ ?_ ?_ ?_); (focus kernel_rfl); (focus kernel_rfl); (focus (decide +kernel)))
          | (with_reducible refine aw_label ?_)
          | ((with_reducible refine aw_rfM ?_ ?_); (focus kernel_rfl))
          | (with_reducible refine aw_skip ?_)
          | (with_reducible refine aw_exit ?_)
          | ((with_reducible refine aw_condM ?_ ?_); (focus kernel_rfl))
          | (with_reducible refine aw_ret ?_)
        ); simp only [↓avP, avQ, if_true, if_false, forall_const, beq_self_eq_true, eq_self, ne_eq, implies_true, reduceIte, Nat.reduceEqDiff, Nat.reduceAdd, Nat.reduceSub, Int.reduceToNat, Nat.reduceLeDiff, Nat.reduceLT, reduceCtorEq, Int.reduceEq, retQ, retL, resV, RetV, RetOk, SubL, intD_B, u64D_B, lotD_B, flowD_B, snocI, snocL, snocIsW, ty_3, ty_91, ty_84, ty_28, ty_4, ty_24, ty_30, ty_22, ty_25, hd2]; try simp (disch := omega) only [av_w, av_t1, av_tp, Int.toNat_natCast]))
    refine ⟨s + 1, by omega, by dsimp only; omega, wk_of [(0, some 0), (1, some 10)] rfl rfl ?_ ?_⟩
    · simp only [wkT, wkB, wkB1, subV, subVs, subD, subB, lkN_n, lkN_c, lkT_n, lkT_c, lkB_n, lkB_c, if_true, if_false, reduceIte, Nat.reduceEqDiff, true_and, and_true, and_self, inT, ofA]
      rw [hms, ← hX]
      (repeat' (first | exact trivial | rfl | exact rfl | exact subVs_d _ _ | exact subVs_dm _ _ | exact subD_refl _ | refine And.intro ?_ ?_))
    · simp only [wkT, wkB, wkB1, subV, subVs, subD, subB, lkN_n, lkN_c, lkT_n, lkT_c, lkB_n, lkB_c, if_true, if_false, reduceIte, Nat.reduceEqDiff, true_and, and_true, and_self, inT, ofA]
      rw [hms, ← hX]
      (repeat' (first | ((simp; done)) | exact trivial | rfl | exact rfl | exact subVs_d _ _ | exact subVs_dm _ _ | exact subD_refl _ | refine And.intro ?_ ?_))
  obtain rfl : s = N := by omega
  have hd2 : decide ((s : Int) < f.senders) = false := decide_eq_false (by omega)
  repeat' (first
    | (with_reducible refine aw_seq ?_)
    | ((with_reducible refine twoG_intro ?_ ?_) <;> intro hTw <;> first | (exact Bool.noConfusion hTw) | ((try simp only [hTw, Bool.not_true, Bool.not_false, Bool.true_and, Bool.false_and, Bool.and_true, Bool.and_false, Bool.true_or, Bool.false_or, Bool.or_true, Bool.or_false]); (first | (guard_hyp hTw : true = true; clear hTw) | (guard_hyp hTw : false = false; clear hTw) | (revert hTw; intro _))))
    | ((with_reducible refine two_intro ?_ ?_) <;> intro hTw <;> first | (exact Bool.noConfusion hTw) | ((first | (guard_hyp hTw : true = true; clear hTw) | (guard_hyp hTw : false = false; clear hTw) | (revert hTw; intro _))))
    | ((with_reducible refine And.intro ?_ ?_); (focus (first | omega | rfl | decide | grind)))
    | (with_reducible refine aw_block ?_)
    | (with_reducible refine aw_scope ?_)
    | ((first
        | ((with_reducible refine aw_regionA T_ok ?_ ?_); (focus kernel_rfl))
        | ((with_reducible refine aw_drawnA T_ok ?_ ?_ ?_ ?_); (focus kernel_rfl); (focus kernel_rfl); (focus (decide +kernel)))
        | ((with_reducible refine aw_drawnF T_ok ?_ ?_ ?_ ?_); (focus kernel_rfl); (focus kernel_rfl); (focus (decide +kernel)))
        | (with_reducible refine aw_label ?_)
        | ((with_reducible refine aw_rfM ?_ ?_); (focus kernel_rfl))
        | (with_reducible refine aw_skip ?_)
        | (with_reducible refine aw_exit ?_)
        | ((with_reducible refine aw_condM ?_ ?_); (focus kernel_rfl))
        | (with_reducible refine aw_ret ?_)
      ); simp only [↓avP, avQ, if_true, if_false, forall_const, beq_self_eq_true, eq_self, ne_eq, implies_true, reduceIte, Nat.reduceEqDiff, Nat.reduceAdd, Nat.reduceSub, Int.reduceToNat, Nat.reduceLeDiff, Nat.reduceLT, reduceCtorEq, Int.reduceEq, retQ, retL, resV, RetV, RetOk, SubL, intD_B, u64D_B, lotD_B, flowD_B, snocI, snocL, snocIsW, ty_3, ty_91, ty_84, ty_28, ty_4, ty_24, ty_30, ty_22, ty_25, hd2]; try simp (disch := omega) only [av_w, av_t1, av_tp, Int.toNat_natCast]))
  rw [hR]
  exact ⟨Sub.refl _, Sub.refl _⟩
end Go.Proofs.Ytnlaiaklafjamaa


namespace Go.Proofs.Ytnlaiaklafjamaa
set_option linter.unusedSimpArgs false
set_option linter.unusedVariables false
open Go.RowKit
set_option maxRecDepth 100000
set_option maxHeartbeats 4000000
theorem subM_mI (ρ : Ren) {m m' : List (Int × Int)} (h : m = m') : subM ρ (mI m) (mI m') := subM_map (f := fun p : Int × Int => ([p.1], V.d (.c (.int .i64 p.2)))) (fun _ => rfl) h
theorem subVs_row (ρ : Ren) (es : List (List D)) : subVs ρ (es.map dV).flatten (es.map dV).flatten := by
  rw [flat_dV]; exact subVs_d _ _
end Go.Proofs.Ytnlaiaklafjamaa


namespace Go.Proofs.Ytnlaiaklafjamaa
set_option linter.unusedSimpArgs false
set_option linter.unusedVariables false
open Go.RowKit
/-- a map of rows of the call's own: key, name, row -/
abbrev TM := List (Int × Nat × List Int)
def nms (M : TM) : List Nat := M.map (·.2.1)
/-- names that stay -/
def idR (ns : List Nat) : Ren := ns.map fun n => (n, some n)
/-- the state of the map: its rows' names -/
structure TOk (M : TM) (nx : Nat) : Prop where
  nd : (nms M).Nodup
  lo : ∀ n ∈ nms M, 0 < n ∧ n < nx
theorem TOk.cons {M : TM} {nx : Nat} (h : TOk M nx) : (0 :: nms M).Nodup := List.nodup_cons.2 ⟨fun hm => by have := h.lo 0 hm; omega, h.nd⟩
theorem TOk.lt {M : TM} {nx : Nat} (h : TOk M nx) (h1 : 1 ≤ nx) : ((idR (0 :: nms M)).all fun p => decide (p.1 < nx)) = true := List.all_eq_true.2 fun p hp => by
  obtain ⟨n, hn, rfl⟩ := List.mem_map.1 hp
  rcases List.mem_cons.1 hn with rfl | hn
  · exact decide_eq_true (by show 0 < nx; omega)
  · exact decide_eq_true (h.lo n hn).2
end Go.Proofs.Ytnlaiaklafjamaa


namespace Go.Proofs.Ytnlaiaklafjamaa
set_option linter.unusedSimpArgs false
set_option linter.unusedVariables false
open Go.RowKit
set_option maxRecDepth 100000
set_option maxHeartbeats 4000000
theorem matA_get {f : FlowP} {N s : Nat} (h : s < N) : (matA f N).getD s [] = endS f s := by
  unfold matA
  rw [List.getD, List.getElem?_map, List.getElem?_range h]
  rfl
end Go.Proofs.Ytnlaiaklafjamaa

