import Derived.Test.YtnlaiaklafjamaaGB12
import Derived.Test.YtnlaiaklafjamaaGB6
import Derived.Test.YtnlaiaklafjamaaGB7
import Derived.Test.YtnlaiaklafjamaaGB8
namespace Go.Proofs.Ytnlaiaklafjamaa
set_option linter.unusedSimpArgs false
set_option linter.unusedVariables false
open Go.RowKit
set_option maxRecDepth 100000
set_option maxHeartbeats 4000000
theorem wmatrix_spec (f : FlowP) (hf : OkF f) : Spec Try.prog 18 [.agg (flowD f)] (.rt [aIss (matR f), aI (checkF f)]) := by
  refine spec_of T_ok Try.func18 (by dsimp only [Try.f18]) rfl rfl (by simp) fun w F => ?_
  have hE := fends_spec f hf
  by_cases hc : checkF f = 0
  rotate_left
  · have hd : (checkF f != 0) = true := by simpa using hc
    repeat' (first
      | (with_reducible refine aw_seq ?_)
      | ((with_reducible refine twoG_intro ?_ ?_) <;> intro hTw <;> first | (exact Bool.noConfusion hTw) | ((try simp only [hTw, Bool.not_true, Bool.not_false, Bool.true_and, Bool.false_and, Bool.and_true, Bool.and_false, Bool.true_or, Bool.false_or, Bool.or_true, Bool.or_false]); (first | (guard_hyp hTw : true = true; clear hTw) | (guard_hyp hTw : false = false; clear hTw) | (revert hTw; intro _))))
      | ((with_reducible refine two_intro ?_ ?_) <;> intro hTw <;> first | (exact Bool.noConfusion hTw) | ((first | (guard_hyp hTw : true = true; clear hTw) | (guard_hyp hTw : false = false; clear hTw) | (revert hTw; intro _))))
      | ((with_reducible refine And.intro ?_ ?_); (focus (first | omega | rfl | decide | grind)))
      | (with_reducible refine aw_block ?_)
      | (with_reducible refine aw_scope ?_)
      | ((first
          | ((with_reducible refine aw_regionA T_ok ?_ ?_); (focus kernel_rfl))
          | ((with_reducible refine aw_drawnA T_ok ?_ ?_ ?_ ?_); (focus kernel_rfl); (focus kernel_rfl); (focus (decide +kernel)))
          | ((with_reducible refine aw_drawnF T_ok ?_ ?_ ?_ ?_); (focus kernel_rfl); (focus kernel_rfl); (focus (decide +kernel)))
          | ((with_reducible refine callK_intro (hE) (by with_unfolding_all rfl) ?_ ?_); (focus kernel_rfl))
          | ((with_reducible refine callI_spec (hE) (by with_unfolding_all rfl) ?_ ?_ ?_); (focus kernel_rfl); (focus kernel_rfl))
          | (with_reducible refine aw_label ?_)
          | ((with_reducible refine aw_rfM ?_ ?_); (focus kernel_rfl))
          | (with_reducible refine aw_skip ?_)
          | (with_reducible refine aw_exit ?_)
          | ((with_reducible refine aw_condM ?_ ?_); (focus kernel_rfl))
          | (with_reducible refine aw_ret ?_)
        ); simp only [↓avP, avQ, if_true, if_false, forall_const, beq_self_eq_true, eq_self, ne_eq, implies_true, reduceIte, Nat.reduceEqDiff, Nat.reduceAdd, Nat.reduceSub, Int.reduceToNat, Nat.reduceLeDiff, Nat.reduceLT, reduceCtorEq, Int.reduceEq, retQ, retL, resV, RetV, RetOk, SubL, intD_B, u64D_B, lotD_B, flowD_B, snocI, snocL, snocIsW, ty_3, ty_91, ty_84, ty_28, ty_4, ty_24, ty_30, ty_22, ty_25, hd]; try simp (disch := omega) only [av_w, av_t1, av_tp, Int.toNat_natCast]))
    rw [matR, if_neg hc]
    exact ⟨Sub.nil _ _, Sub.refl _⟩
  rw [hc] at hE ⊢
  rw [show endsR f = endsF f by rw [endsR, if_pos hc]] at hE
  have hEl := endsF_le hc
  have hh := fun {n : Nat} (hn : (n : Int) < f.senders) {t : Int} (ht : t ∈ endsF f) => has_end (n := n) hc hn ht
  obtain ⟨z1, z2, z3, z4, z5⟩ := checkF_zero hc
  obtain ⟨N, hN⟩ : ∃ N : Nat, f.senders = N := ⟨f.senders.toNat, by omega⟩
  have hR : matR f = matA f N := by rw [matR, if_pos hc, hN]; rfl
  have hend : ∀ n : Nat, endS f n = (endsF f).filter fun t => decide (t ∈ spL f n f.lots.length) := fun n => rfl
  obtain ⟨E, hEe⟩ : ∃ E, E = endsF f := ⟨_, rfl⟩
  simp only [← hEe] at hE hEl hh hend
  repeat' (first
    | (with_reducible refine aw_seq ?_)
    | ((with_reducible refine twoG_intro ?_ ?_) <;> intro hTw <;> first | (exact Bool.noConfusion hTw) | ((try simp only [hTw, Bool.not_true, Bool.not_false, Bool.true_and, Bool.false_and, Bool.and_true, Bool.and_false, Bool.true_or, Bool.false_or, Bool.or_true, Bool.or_false]); (first | (guard_hyp hTw : true = true; clear hTw) | (guard_hyp hTw : false = false; clear hTw) | (revert hTw; intro _))))
    | ((with_reducible refine two_intro ?_ ?_) <;> intro hTw <;> first | (exact Bool.noConfusion hTw) | ((first | (guard_hyp hTw : true = true; clear hTw) | (guard_hyp hTw : false = false; clear hTw) | (revert hTw; intro _))))
    | ((with_reducible refine And.intro ?_ ?_); (focus (first | omega | rfl | decide | grind)))
    | (with_reducible refine aw_block ?_)
    | (with_reducible refine aw_scope ?_)
    | ((first
        | ((with_reducible refine aw_regionA T_ok ?_ ?_); (focus kernel_rfl))
        | ((with_reducible refine aw_drawnA T_ok ?_ ?_ ?_ ?_); (focus kernel_rfl); (focus kernel_rfl); (focus (decide +kernel)))
        | ((with_reducible refine aw_drawnF T_ok ?_ ?_ ?_ ?_); (focus kernel_rfl); (focus kernel_rfl); (focus (decide +kernel)))
        | ((with_reducible refine callK_intro (hE) (by with_unfolding_all rfl) ?_ ?_); (focus kernel_rfl))
        | ((with_reducible refine callI_spec (hE) (by with_unfolding_all rfl) ?_ ?_ ?_); (focus kernel_rfl); (focus kernel_rfl))
        | (with_reducible refine aw_label ?_)
        | ((with_reducible refine aw_rfM ?_ ?_); (focus kernel_rfl))
        | (with_reducible refine aw_skip ?_)
        | (with_reducible refine aw_exit ?_)
        | ((with_reducible refine aw_condM ?_ ?_); (focus kernel_rfl))
        | (with_reducible refine aw_ret ?_)
      ); simp only [↓avP, avQ, if_true, if_false, forall_const, beq_self_eq_true, eq_self, ne_eq, implies_true, reduceIte, Nat.reduceEqDiff, Nat.reduceAdd, Nat.reduceSub, Int.reduceToNat, Nat.reduceLeDiff, Nat.reduceLT, reduceCtorEq, Int.reduceEq, retQ, retL, resV, RetV, RetOk, SubL, intD_B, u64D_B, lotD_B, flowD_B, snocI, snocL, snocIsW, ty_3, ty_91, ty_84, ty_28, ty_4, ty_24, ty_30, ty_22, ty_25]; try simp (disch := omega) only [av_w, av_t1, av_tp, Int.toNat_natCast]))
  refine aw_loopI (fun s : Nat => ⟨[(1, .ptr 0 0), (2, .ow 1 1 (issD []) ((matA f s).map issD)), (4, vIs E), (15, vI f.senders), (16, vI s)], [(1, .tok 28 1 (matA f s).length), (0, .cells 24 (dV (flowD f)))], 2⟩)
    (fun s => s ≤ N) (fun s => N - s) 0 (Nat.zero_le _) (wk_of [(0, some 0), (1, none)] rfl rfl ?_ ?_) ?_
  · simp only [wkT, wkB, wkB1, subV, subVs, subD, subB, lkN_n, lkN_c, lkT_n, lkT_c, lkB_n, lkB_c, if_true, if_false, reduceIte, Nat.reduceEqDiff, true_and, and_true, and_self, inT, ofA]
    (repeat' (first | exact trivial | rfl | exact rfl | exact subVs_d _ _ | exact subVs_dm _ _ | exact subD_refl _ | refine And.intro ?_ ?_))
  · simp only [wkT, wkB, wkB1, subV, subVs, subD, subB, lkN_n, lkN_c, lkT_n, lkT_c, lkB_n, lkB_c, if_true, if_false, reduceIte, Nat.reduceEqDiff, true_and, and_true, and_self, inT, ofA]
    (repeat' (first | exact trivial | rfl | exact rfl | exact subVs_d _ _ | exact subVs_dm _ _ | exact subD_refl _ | refine And.intro ?_ ?_))
  intro s hs
  have hml := matA_len f s
  have hms := matA_succ f s
  rcases Nat.lt_or_ge s N with hlt | hge
  · have hd2 : decide ((s : Int) < f.senders) = true := decide_eq_true (by omega)
    have hh := fun {t : Int} (ht : t ∈ E) => hh (n := s) (by omega) ht
    have hsp := wspots_spec f s hf hc (by omega)
    have hend := hend s
    obtain ⟨p, hp⟩ : ∃ p : Int → Bool, p = fun t => decide (t ∈ spL f s f.lots.length) := ⟨_, rfl⟩
    obtain ⟨ws, hws⟩ : ∃ ws, ws = spW f s f.lots.length := ⟨_, rfl⟩
    have hh : ∀ {t : Int}, t ∈ E → Spec Try.prog 50 [aWs ws, aI t] (.r1 (aB (p t))) := fun {t} ht => by
      rw [hws, hp]; exact hh ht
    rw [← hp] at hend
    rw [← hws] at hsp
    repeat' (first
      | (with_reducible refine aw_seq ?_)
      | ((with_reducible refine twoG_intro ?_ ?_) <;> intro hTw <;> first | (exact Bool.noConfusion hTw) | ((try simp only [hTw, Bool.not_true, Bool.not_false, Bool.true_and, Bool.false_and, Bool.and_true, Bool.and_false, Bool.true_or, Bool.false_or, Bool.or_true, Bool.or_false]); (first | (guard_hyp hTw : true = true; clear hTw) | (guard_hyp hTw : false = false; clear hTw) | (revert hTw; intro _))))
      | ((with_reducible refine two_intro ?_ ?_) <;> intro hTw <;> first | (exact Bool.noConfusion hTw) | ((first | (guard_hyp hTw : true = true; clear hTw) | (guard_hyp hTw : false = false; clear hTw) | (revert hTw; intro _))))
      | ((with_reducible refine And.intro ?_ ?_); (focus (first | omega | rfl | decide | grind)))
      | (with_reducible refine aw_block ?_)
      | (with_reducible refine aw_scope ?_)
      | ((first
          | ((with_reducible refine aw_regionA T_ok ?_ ?_); (focus kernel_rfl))
          | ((with_reducible refine aw_drawnA T_ok ?_ ?_ ?_ ?_); (focus kernel_rfl); (focus kernel_rfl); (focus (decide +kernel)))
          | ((with_reducible refine aw_drawnF T_ok ?_ ?_ ?_ ?_); (focus kernel_rfl); (focus kernel_rfl); (focus (decide +kernel)))
          | ((with_reducible apply callI_in T_ok Try.func36); (focus (dsimp only [Try.f36])); (focus rfl); (focus rfl); (focus kernel_rfl); (focus exact of_decide_eq_true (by kernel_rfl)); (focus kernel_rfl); (focus kernel_rfl); intro _)
          | ((with_reducible apply callI_in T_ok Try.func35); (focus (dsimp only [Try.f35])); (focus rfl); (focus rfl); (focus kernel_rfl); (focus exact of_decide_eq_true (by kernel_rfl)); (focus kernel_rfl); (focus kernel_rfl); intro _)
          | ((with_reducible apply callI_in T_ok Try.func47); (focus (dsimp only [Try.f47])); (focus rfl); (focus rfl); (focus kernel_rfl); (focus exact of_decide_eq_true (by kernel_rfl)); (focus kernel_rfl); (focus kernel_rfl); intro _)
          | ((with_reducible apply rfI_in Try.func48); (focus (dsimp only [Try.f48])); (focus (dsimp only [Base.inn, Base.inr])); (focus rfl); (focus rfl); (focus kernel_rfl); (focus exact of_decide_eq_true (by kernel_rfl)); (focus kernel_rfl); intro aL L hLp hLa hLb hLt)
          | ((with_reducible refine callK_intro (hsp) (by with_unfolding_all rfl) ?_ ?_); (focus kernel_rfl))
          | ((with_reducible refine callI_spec (hsp) (by with_unfolding_all rfl) ?_ ?_ ?_); (focus kernel_rfl); (focus kernel_rfl))
          | (with_reducible refine aw_label ?_)
          | ((with_reducible refine aw_rfM ?_ ?_); (focus kernel_rfl))
          | (with_reducible refine aw_skip ?_)
          | (with_reducible refine aw_exit ?_)
          | ((with_reducible refine aw_condM ?_ ?_); (focus kernel_rfl))
          | (with_reducible refine aw_ret ?_)
        ); simp only [↓avP, avQ, if_true, if_false, forall_const, beq_self_eq_true, eq_self, ne_eq, implies_true, reduceIte, Nat.reduceEqDiff, Nat.reduceAdd, Nat.reduceSub, Int.reduceToNat, Nat.reduceLeDiff, Nat.reduceLT, reduceCtorEq, Int.reduceEq, retQ, retL, resV, RetV, RetOk, SubL, intD_B, u64D_B, lotD_B, flowD_B, snocI, snocL, snocIsW, ty_3, ty_91, ty_84, ty_28, ty_4, ty_24, ty_30, ty_22, ty_25, hd2]; try simp (disch := omega) only [av_w, av_t1, av_tp, Int.toNat_natCast]))
    refine aw_loopI (fun k : Nat => ⟨[(0, .yl 7), (5, .d (.sl 1 (u64D 0) (ws.map u64D))), (11, vIs E), (12, vI E.length), (13, vI k), (29, .ptr 6 0), (46, .ptr 0 0), (47, .ow 1 1 (issD []) ((matA f s).map issD)), (49, vIs E), (60, vI f.senders), (61, vI s), (64, .ow 1 1 (issD []) ((matA f s).map issD))],
        [(7, .loop L .ready none), (6, .cells 28 [.ow 8 1 (intD 0) (((E.take k).filter p).map intD)]), (8, .tok 3 1 ((E.take k).filter p).length), (1, .tok 28 1 (matA f s).length), (0, .cells 24 (dV (flowD f)))], 9⟩)
      (fun k => k ≤ E.length) (fun k => E.length - k) 0 (Nat.zero_le _) (wk_of [(0, some 0), (1, some 1), (6, some 5), (7, some 6), (8, none)] rfl rfl ?_ ?_) ?_
    · simp only [wkT, wkB, wkB1, subV, subVs, subD, subB, lkN_n, lkN_c, lkT_n, lkT_c, lkB_n, lkB_c, if_true, if_false, reduceIte, Nat.reduceEqDiff, true_and, and_true, and_self, inT, ofA]
      (repeat' (first | exact trivial | rfl | exact rfl | exact subVs_d _ _ | exact subVs_dm _ _ | exact subD_refl _ | refine And.intro ?_ ?_))
    · simp only [wkT, wkB, wkB1, subV, subVs, subD, subB, lkN_n, lkN_c, lkT_n, lkT_c, lkB_n, lkB_c, if_true, if_false, reduceIte, Nat.reduceEqDiff, true_and, and_true, and_self, inT, ofA]
      (repeat' (first | exact trivial | rfl | exact rfl | exact subVs_d _ _ | exact subVs_dm _ _ | exact subD_refl _ | refine And.intro ?_ ?_))
    intro k hk
    have hfl := filter_lenW E p k
    have hfs := fun h => filter_succW (l := E) p (k := k) h
    obtain ⟨X, hX⟩ : ∃ X, X = (E.take k).filter p := ⟨_, rfl⟩
    rw [← hX] at hfl hfs ⊢
    rcases Nat.lt_or_ge k E.length with hlt | hge
    · have hd2 := ltd hlt
      have hfs := hfs hlt
      have h1 := hh (getD_mem hlt)
      cases hb : p (E.getD k 0) with
      | true =>
        rw [hb] at h1
        rw [if_pos hb] at hfs
        repeat' (first
          | (with_reducible refine aw_seq ?_)
          | ((with_reducible refine twoG_intro ?_ ?_) <;> intro hTw <;> first | (exact Bool.noConfusion hTw) | ((try simp only [hTw, Bool.not_true, Bool.not_false, Bool.true_and, Bool.false_and, Bool.and_true, Bool.and_false, Bool.true_or, Bool.false_or, Bool.or_true, Bool.or_false]); (first | (guard_hyp hTw : true = true; clear hTw) | (guard_hyp hTw : false = false; clear hTw) | (revert hTw; intro _))))
          | ((with_reducible refine two_intro ?_ ?_) <;> intro hTw <;> first | (exact Bool.noConfusion hTw) | ((first | (guard_hyp hTw : true = true; clear hTw) | (guard_hyp hTw : false = false; clear hTw) | (revert hTw; intro _))))
          | ((with_reducible refine And.intro ?_ ?_); (focus (first | omega | rfl | decide | grind)))
          | (with_reducible refine aw_block ?_)
          | (with_reducible refine aw_scope ?_)
          | ((first
              | ((with_reducible refine aw_regionA T_ok ?_ ?_); (focus kernel_rfl))
              | ((with_reducible refine aw_drawnA T_ok ?_ ?_ ?_ ?_); (focus kernel_rfl); (focus kernel_rfl); (focus (decide +kernel)))
              | ((with_reducible refine aw_drawnF T_ok ?_ ?_ ?_ ?_); (focus kernel_rfl); (focus kernel_rfl); (focus (decide +kernel)))
              | ((with_reducible refine callK_intro (h1) (by with_unfolding_all rfl) ?_ ?_); (focus kernel_rfl))
              | ((with_reducible refine callI_spec (h1) (by with_unfolding_all rfl) ?_ ?_ ?_); (focus kernel_rfl); (focus kernel_rfl))
              | ((with_reducible apply yieldI_in 0 0 (hL1 := hLp) (hL2 := hLa) (hL3 := hLb) (hsz := hLt.1)); (focus rfl); (focus rfl); (focus rfl); (focus kernel_rfl); (focus (dsimp only [Base.inn, Base.inr])); (focus exact (fun t ht => (hLt.2 t ht).trans (by rw [Nat.zero_add]; rfl))); (focus kernel_rfl); intro _)
              | (with_reducible refine aw_label ?_)
              | ((with_reducible refine aw_rfM ?_ ?_); (focus kernel_rfl))
              | (with_reducible refine aw_skip ?_)
              | (with_reducible refine aw_exit ?_)
              | ((with_reducible refine aw_condM ?_ ?_); (focus kernel_rfl))
              | (with_reducible refine aw_ret ?_)
            ); simp only [↓avP, avQ, if_true, if_false, forall_const, beq_self_eq_true, eq_self, ne_eq, implies_true, reduceIte, Nat.reduceEqDiff, Nat.reduceAdd, Nat.reduceSub, Int.reduceToNat, Nat.reduceLeDiff, Nat.reduceLT, reduceCtorEq, Int.reduceEq, retQ, retL, resV, RetV, RetOk, SubL, intD_B, u64D_B, lotD_B, flowD_B, snocI, snocL, snocIsW, ty_3, ty_91, ty_84, ty_28, ty_4, ty_24, ty_30, ty_22, ty_25, hd2]; try simp (disch := omega) only [av_w, av_t1, av_tp, Int.toNat_natCast]))
        refine ⟨k + 1, by omega, by dsimp only; omega, wk_of [(0, some 0), (1, some 1), (6, some 6), (7, some 7), (8, some 10)] rfl rfl ?_ ?_⟩
        · simp only [wkT, wkB, wkB1, subV, subVs, subD, subB, lkN_n, lkN_c, lkT_n, lkT_c, lkB_n, lkB_c, if_true, if_false, reduceIte, Nat.reduceEqDiff, true_and, and_true, and_self, inT, ofA]
          (repeat' (first | exact trivial | rfl | exact rfl | exact subVs_d _ _ | exact subVs_dm _ _ | exact subD_refl _ | refine And.intro ?_ ?_))
        · simp only [wkT, wkB, wkB1, subV, subVs, subD, subB, lkN_n, lkN_c, lkT_n, lkT_c, lkB_n, lkB_c, if_true, if_false, reduceIte, Nat.reduceEqDiff, true_and, and_true, and_self, inT, ofA]
          rw [hfs]
          (repeat' (first | ((simp; done)) | exact trivial | rfl | exact rfl | exact subVs_d _ _ | exact subVs_dm _ _ | exact subD_refl _ | refine And.intro ?_ ?_))
      | false =>
        rw [hb] at h1
        rw [if_neg (by rw [hb]; simp)] at hfs
        repeat' (first
          | (with_reducible refine aw_seq ?_)
          | ((with_reducible refine twoG_intro ?_ ?_) <;> intro hTw <;> first | (exact Bool.noConfusion hTw) | ((try simp only [hTw, Bool.not_true, Bool.not_false, Bool.true_and, Bool.false_and, Bool.and_true, Bool.and_false, Bool.true_or, Bool.false_or, Bool.or_true, Bool.or_false]); (first | (guard_hyp hTw : true = true; clear hTw) | (guard_hyp hTw : false = false; clear hTw) | (revert hTw; intro _))))
          | ((with_reducible refine two_intro ?_ ?_) <;> intro hTw <;> first | (exact Bool.noConfusion hTw) | ((first | (guard_hyp hTw : true = true; clear hTw) | (guard_hyp hTw : false = false; clear hTw) | (revert hTw; intro _))))
          | ((with_reducible refine And.intro ?_ ?_); (focus (first | omega | rfl | decide | grind)))
          | (with_reducible refine aw_block ?_)
          | (with_reducible refine aw_scope ?_)
          | ((first
              | ((with_reducible refine aw_regionA T_ok ?_ ?_); (focus kernel_rfl))
              | ((with_reducible refine aw_drawnA T_ok ?_ ?_ ?_ ?_); (focus kernel_rfl); (focus kernel_rfl); (focus (decide +kernel)))
              | ((with_reducible refine aw_drawnF T_ok ?_ ?_ ?_ ?_); (focus kernel_rfl); (focus kernel_rfl); (focus (decide +kernel)))
              | ((with_reducible refine callK_intro (h1) (by with_unfolding_all rfl) ?_ ?_); (focus kernel_rfl))
              | ((with_reducible refine callI_spec (h1) (by with_unfolding_all rfl) ?_ ?_ ?_); (focus kernel_rfl); (focus kernel_rfl))
              | ((with_reducible refine callK_skip (.r1 (aB true)) (by with_unfolding_all rfl) ?_ ?_); (focus kernel_rfl))
              | ((with_reducible apply yieldI_in 0 0 (hL1 := hLp) (hL2 := hLa) (hL3 := hLb) (hsz := hLt.1)); (focus rfl); (focus rfl); (focus rfl); (focus kernel_rfl); (focus (dsimp only [Base.inn, Base.inr])); (focus exact (fun t ht => (hLt.2 t ht).trans (by rw [Nat.zero_add]; rfl))); (focus kernel_rfl); intro _)
              | (with_reducible refine aw_label ?_)
              | ((with_reducible refine aw_rfM ?_ ?_); (focus kernel_rfl))
              | (with_reducible refine aw_skip ?_)
              | (with_reducible refine aw_exit ?_)
              | ((with_reducible refine aw_condM ?_ ?_); (focus kernel_rfl))
              | (with_reducible refine aw_ret ?_)
            ); simp only [↓avP, avQ, if_true, if_false, forall_const, beq_self_eq_true, eq_self, ne_eq, implies_true, reduceIte, Nat.reduceEqDiff, Nat.reduceAdd, Nat.reduceSub, Int.reduceToNat, Nat.reduceLeDiff, Nat.reduceLT, reduceCtorEq, Int.reduceEq, retQ, retL, resV, RetV, RetOk, SubL, intD_B, u64D_B, lotD_B, flowD_B, snocI, snocL, snocIsW, ty_3, ty_91, ty_84, ty_28, ty_4, ty_24, ty_30, ty_22, ty_25, hd2]; try simp (disch := omega) only [av_w, av_t1, av_tp, Int.toNat_natCast]))
        refine ⟨k + 1, by omega, by dsimp only; omega, wk_of [(0, some 0), (1, some 1), (6, some 6), (7, some 7), (8, some 8)] rfl rfl ?_ ?_⟩
        · simp only [wkT, wkB, wkB1, subV, subVs, subD, subB, lkN_n, lkN_c, lkT_n, lkT_c, lkB_n, lkB_c, if_true, if_false, reduceIte, Nat.reduceEqDiff, true_and, and_true, and_self, inT, ofA]
          (repeat' (first | exact trivial | rfl | exact rfl | exact subVs_d _ _ | exact subVs_dm _ _ | exact subD_refl _ | refine And.intro ?_ ?_))
        · simp only [wkT, wkB, wkB1, subV, subVs, subD, subB, lkN_n, lkN_c, lkT_n, lkT_c, lkB_n, lkB_c, if_true, if_false, reduceIte, Nat.reduceEqDiff, true_and, and_true, and_self, inT, ofA]
          rw [hfs]
          (repeat' (first | exact trivial | rfl | exact rfl | exact subVs_d _ _ | exact subVs_dm _ _ | exact subD_refl _ | refine And.intro ?_ ?_))
    obtain rfl : k = E.length := by omega
    have hd2 := ged (Nat.le_refl E.length)
    rw [List.take_length, ← hend] at hX
    repeat' (first
      | (with_reducible refine aw_seq ?_)
      | ((with_reducible refine twoG_intro ?_ ?_) <;> intro hTw <;> first | (exact Bool.noConfusion hTw) | ((try simp only [hTw, Bool.not_true, Bool.not_false, Bool.true_and, Bool.false_and, Bool.and_true, Bool.and_false, Bool.true_or, Bool.false_or, Bool.or_true, Bool.or_false]); (first | (guard_hyp hTw : true = true; clear hTw) | (guard_hyp hTw : false = false; clear hTw) | (revert hTw; intro _))))
      | ((with_reducible refine two_intro ?_ ?_) <;> intro hTw <;> first | (exact Bool.noConfusion hTw) | ((first | (guard_hyp hTw : true = true; clear hTw) | (guard_hyp hTw : false = false; clear hTw) | (revert hTw; intro _))))
      | ((with_reducible refine And.intro ?_ ?_); (focus (first | omega | rfl | decide | grind)))
      | (with_reducible refine aw_block ?_)
      | (with_reducible refine aw_scope ?_)
      | ((first
          | ((with_reducible refine aw_regionA T_ok ?_ ?_); (focus kernel_rfl))
          | ((with_reducible refine aw_drawnA T_ok ?_ ?_ ?_ ?_); (focus kernel_rfl); (focus kernel_rfl); (focus (decide +kernel)))
          | ((with_reducible refine aw_drawnF T_ok ?_ ?_ ?_ ?_); (focus kernel_rfl); (focus kernel_rfl); (focus (decide +kernel)))
          | (with_reducible refine aw_label ?_)
          | ((with_reducible refine aw_rfM ?_ ?_); (focus kernel_rfl))
          | (with_reducible refine aw_skip ?_)
          | (with_reducible refine aw_exit ?_)
          | ((with_reducible refine aw_condM ?_ ?_); (focus kernel_rfl))
          | (with_reducible refine aw_ret ?_)
        ); simp only [↓avP, avQ, if_true, if_false, forall_const, beq_self_eq_true, eq_self, ne_eq, implies_true, reduceIte, Nat.reduceEqDiff, Nat.reduceAdd, Nat.reduceSub, Int.reduceToNat, Nat.reduceLeDiff, Nat.reduceLT, reduceCtorEq, Int.reduceEq, retQ, retL, resV, RetV, RetOk, SubL, intD_B, u64D_B, lotD_B, flowD_B, snocI, snocL, snocIsW, ty_3, ty_91, ty_84, ty_28, ty_4, ty_24, ty_30, ty_22, ty_25, hd2]; try simp (disch := omega) only [av_w, av_t1, av_tp, Int.toNat_natCast]))
    refine ⟨s + 1, by omega, by dsimp only; omega, wk_of [(0, some 0), (1, some 10)] rfl rfl ?_ ?_⟩
    · simp only [wkT, wkB, wkB1, subV, subVs, subD, subB, lkN_n, lkN_c, lkT_n, lkT_c, lkB_n, lkB_c, if_true, if_false, reduceIte, Nat.reduceEqDiff, true_and, and_true, and_self, inT, ofA]
      rw [hms, ← hX]
      (repeat' (first | exact trivial | rfl | exact rfl | exact subVs_d _ _ | exact subVs_dm _ _ | exact subD_refl _ | refine And.intro ?_ ?_))
    · simp only [wkT, wkB, wkB1, subV, subVs, subD, subB, lkN_n, lkN_c, lkT_n, lkT_c, lkB_n, lkB_c, if_true, if_false, reduceIte, Nat.reduceEqDiff, true_and, and_true, and_self, inT, ofA]
      rw [hms, ← hX]
      (repeat' (first | ((simp; done)) | exact trivial | rfl | exact rfl | exact subVs_d _ _ | exact subVs_dm _ _ | exact subD_refl _ | refine And.intro ?_ ?_))
  obtain rfl : s = N := by omega
  have hd2 : decide ((s : Int) < f.senders) = false := decide_eq_false (by omega)
  repeat' (first
    | (with_reducible refine aw_seq ?_)
    | ((with_reducible refine twoG_intro ?_ ?_) <;> intro hTw <;> first | (exact Bool.noConfusion hTw) | ((try simp only [hTw, Bool.not_true, Bool.not_false, Bool.true_and, Bool.false_and, Bool.and_true, Bool.and_false, Bool.true_or, Bool.false_or, Bool.or_true, Bool.or_false]); (first | (guard_hyp hTw : true = true; clear hTw) | (guard_hyp hTw : false = false; clear hTw) | (revert hTw; intro _))))
    | ((with_reducible refine two_intro ?_ ?_) <;> intro hTw <;> first | (exact Bool.noConfusion hTw) | ((first | (guard_hyp hTw : true = true; clear hTw) | (guard_hyp hTw : false = false; clear hTw) | (revert hTw; intro _))))
    | ((with_reducible refine And.intro ?_ ?_); (focus (first | omega | rfl | decide | grind)))
    | (with_reducible refine aw_block ?_)
    | (with_reducible refine aw_scope ?_)
    | ((first
        | ((with_reducible refine aw_regionA T_ok ?_ ?_); (focus kernel_rfl))
        | ((with_reducible refine aw_drawnA T_ok ?_ ?_ ?_ ?_); (focus kernel_rfl); (focus kernel_rfl); (focus (decide +kernel)))
        | ((with_reducible refine aw_drawnF T_ok ?_ ?_ ?_ ?_); (focus kernel_rfl); (focus kernel_rfl); (focus (decide +kernel)))
        | (with_reducible refine aw_label ?_)
        | ((with_reducible refine aw_rfM ?_ ?_); (focus kernel_rfl))
        | (with_reducible refine aw_skip ?_)
        | (with_reducible refine aw_exit ?_)
        | ((with_reducible refine aw_condM ?_ ?_); (focus kernel_rfl))
        | (with_reducible refine aw_ret ?_)
      ); simp only [↓avP, avQ, if_true, if_false, forall_const, beq_self_eq_true, eq_self, ne_eq, implies_true, reduceIte, Nat.reduceEqDiff, Nat.reduceAdd, Nat.reduceSub, Int.reduceToNat, Nat.reduceLeDiff, Nat.reduceLT, reduceCtorEq, Int.reduceEq, retQ, retL, resV, RetV, RetOk, SubL, intD_B, u64D_B, lotD_B, flowD_B, snocI, snocL, snocIsW, ty_3, ty_91, ty_84, ty_28, ty_4, ty_24, ty_30, ty_22, ty_25, hd2]; try simp (disch := omega) only [av_w, av_t1, av_tp, Int.toNat_natCast]))
  rw [hR]
  exact ⟨Sub.refl _, Sub.refl _⟩
end Go.Proofs.Ytnlaiaklafjamaa


namespace Go.Proofs.Ytnlaiaklafjamaa
set_option linter.unusedSimpArgs false
set_option linter.unusedVariables false
open Go.RowKit
set_option maxRecDepth 100000
set_option maxHeartbeats 4000000
theorem subM_mI (ρ : Ren) {m m' : List (Int × Int)} (h : m = m') : subM ρ (mI m) (mI m') := subM_map (f := fun p : Int × Int => ([p.1], V.d (.c (.int .i64 p.2)))) (fun _ => rfl) h
theorem subVs_row (ρ : Ren) (es : List (List D)) : subVs ρ (es.map dV).flatten (es.map dV).flatten := by
  rw [flat_dV]; exact subVs_d _ _
end Go.Proofs.Ytnlaiaklafjamaa


namespace Go.Proofs.Ytnlaiaklafjamaa
set_option linter.unusedSimpArgs false
set_option linter.unusedVariables false
open Go.RowKit
/-- a map of rows of the call's own: key, name, row -/
abbrev TM := List (Int × Nat × List Int)
def nms (M : TM) : List Nat := M.map (·.2.1)
/-- names that stay -/
def idR (ns : List Nat) : Ren := ns.map fun n => (n, some n)
/-- the state of the map: its rows' names -/
structure TOk (M : TM) (nx : Nat) : Prop where
  nd : (nms M).Nodup
  lo : ∀ n ∈ nms M, 0 < n ∧ n < nx
theorem TOk.cons {M : TM} {nx : Nat} (h : TOk M nx) : (0 :: nms M).Nodup := List.nodup_cons.2 ⟨fun hm => by have := h.lo 0 hm; omega, h.nd⟩
theorem TOk.lt {M : TM} {nx : Nat} (h : TOk M nx) (h1 : 1 ≤ nx) : ((idR (0 :: nms M)).all fun p => decide (p.1 < nx)) = true := List.all_eq_true.2 fun p hp => by
  obtain ⟨n, hn, rfl⟩ := List.mem_map.1 hp
  rcases List.mem_cons.1 hn with rfl | hn
  · exact decide_eq_true (by show 0 < nx; omega)
  · exact decide_eq_true (h.lo n hn).2
end Go.Proofs.Ytnlaiaklafjamaa


namespace Go.Proofs.Ytnlaiaklafjamaa
set_option linter.unusedSimpArgs false
set_option linter.unusedVariables false
open Go.RowKit
set_option maxRecDepth 100000
set_option maxHeartbeats 4000000
theorem matA_get {f : FlowP} {N s : Nat} (h : s < N) : (matA f N).getD s [] = endS f s := by
  unfold matA
  rw [List.getD, List.getElem?_map, List.getElem?_range h]
  rfl
end Go.Proofs.Ytnlaiaklafjamaa


namespace Go.Proofs.Ytnlaiaklafjamaa
set_option linter.unusedSimpArgs false
set_option linter.unusedVariables false
open Go.RowKit
set_option maxRecDepth 100000
set_option maxHeartbeats 4000000
end Go.Proofs.Ytnlaiaklafjamaa


namespace Go.Proofs.Ytnlaiaklafjamaa
set_option linter.unusedSimpArgs false
set_option linter.unusedVariables false
open Go.RowKit
set_option maxRecDepth 100000
set_option maxHeartbeats 4000000
theorem endsR_le (f : FlowP) : (endsR f).length ≤ 50000 := by
  unfold endsR
  split
  · rename_i hc
    have z := checkF_zero hc
    have h := endAt_len f (befF f f.lots.length).toNat
    have : endsF f = endAt f (befF f f.lots.length).toNat := rfl
    rw [this]
    omega
  · simp
end Go.Proofs.Ytnlaiaklafjamaa


namespace Go.Proofs.Ytnlaiaklafjamaa
set_option linter.unusedSimpArgs false
set_option linter.unusedVariables false
open Go.RowKit
set_option maxRecDepth 100000
set_option maxHeartbeats 4000000
theorem lists_ext {a b : List (List Int)} (h2 : a.length = b.length) (h3 : ∀ i, i < a.length → a.getD i [] = b.getD i []) : a = b := by
  refine List.ext_getElem h2 fun i h1 h2 => ?_
  have := h3 i h1
  simpa [List.getD, h1, h2] using this
theorem qwsame_spec (a b : List (List Int)) (hx : ∀ k, (a.getD k []).length ≤ 140737488351232) (ha : a.length ≤ 140737488351232) (hb : b.length ≤ 140737488351232) : Spec Try.prog 20 [aIss a, aIss b] (.r1 (aB (decide (a = b)))) := by
  refine spec_of T_ok Try.func20 (by dsimp only [Try.f20]) rfl rfl (by simp) fun w F => ?_
  by_cases h2 : a.length = b.length
  rotate_left
  · have hd2 : ((a.length : Int) != (b.length : Int)) = true := by simp; omega
    repeat' (first
      | (with_reducible refine aw_seq ?_)
      | ((with_reducible refine twoG_intro ?_ ?_) <;> intro hTw <;> first | (exact Bool.noConfusion hTw) | ((try simp only [hTw, Bool.not_true, Bool.not_false, Bool.true_and, Bool.false_and, Bool.and_true, Bool.and_false, Bool.true_or, Bool.false_or, Bool.or_true, Bool.or_false]); (first | (guard_hyp hTw : true = true; clear hTw) | (guard_hyp hTw : false = false; clear hTw) | (revert hTw; intro _))))
      | ((with_reducible refine two_intro ?_ ?_) <;> intro hTw <;> first | (exact Bool.noConfusion hTw) | ((first | (guard_hyp hTw : true = true; clear hTw) | (guard_hyp hTw : false = false; clear hTw) | (revert hTw; intro _))))
      | ((with_reducible refine And.intro ?_ ?_); (focus (first | omega | rfl | decide | grind)))
      | (with_reducible refine aw_block ?_)
      | (with_reducible refine aw_scope ?_)
      | ((first
          | ((with_reducible refine aw_regionA T_ok ?_ ?_); (focus kernel_rfl))
          | ((with_reducible refine aw_drawnA T_ok ?_ ?_ ?_ ?_); (focus kernel_rfl); (focus kernel_rfl); (focus (decide +kernel)))
          | ((with_reducible refine aw_drawnF T_ok ?_ ?_ ?_ ?_); (focus kernel_rfl); (focus kernel_rfl); (focus (decide +kernel)))
          | (with_reducible refine aw_label ?_)
          | ((with_reducible refine aw_rfM ?_ ?_); (focus kernel_rfl))
          | (with_reducible refine aw_skip ?_)
          | (with_reducible refine aw_exit ?_)
          | ((with_reducible refine aw_condM ?_ ?_); (focus kernel_rfl))
          | (with_reducible refine aw_ret ?_)
        ); simp only [↓avP, avQ, if_true, if_false, forall_const, beq_self_eq_true, eq_self, ne_eq, implies_true, reduceIte, Nat.reduceEqDiff, Nat.reduceAdd, Nat.reduceSub, Int.reduceToNat, Nat.reduceLeDiff, Nat.reduceLT, reduceCtorEq, Int.reduceEq, retQ, retL, resV, RetV, RetOk, SubL, intD_B, lotD_B, flowD_B, snocI, snocL, ty_3, ty_28, ty_4, ty_24, ty_30, ty_22, ty_25, issD_get, hd2]; try simp (disch := omega) only [av_w, av_t1, av_tp, Int.toNat_natCast]))
    exact Sub.of_eq (congrArg aB (decide_eq_false (fun e => h2 (by rw [e]))).symm)
  have hd2 : ((a.length : Int) != (b.length : Int)) = false := by simp; omega
  repeat' (first
    | (with_reducible refine aw_seq ?_)
    | ((with_reducible refine twoG_intro ?_ ?_) <;> intro hTw <;> first | (exact Bool.noConfusion hTw) | ((try simp only [hTw, Bool.not_true, Bool.not_false, Bool.true_and, Bool.false_and, Bool.and_true, Bool.and_false, Bool.true_or, Bool.false_or, Bool.or_true, Bool.or_false]); (first | (guard_hyp hTw : true = true; clear hTw) | (guard_hyp hTw : false = false; clear hTw) | (revert hTw; intro _))))
    | ((with_reducible refine two_intro ?_ ?_) <;> intro hTw <;> first | (exact Bool.noConfusion hTw) | ((first | (guard_hyp hTw : true = true; clear hTw) | (guard_hyp hTw : false = false; clear hTw) | (revert hTw; intro _))))
    | ((with_reducible refine And.intro ?_ ?_); (focus (first | omega | rfl | decide | grind)))
    | (with_reducible refine aw_block ?_)
    | (with_reducible refine aw_scope ?_)
    | ((first
        | ((with_reducible refine aw_regionA T_ok ?_ ?_); (focus kernel_rfl))
        | ((with_reducible refine aw_drawnA T_ok ?_ ?_ ?_ ?_); (focus kernel_rfl); (focus kernel_rfl); (focus (decide +kernel)))
        | ((with_reducible refine aw_drawnF T_ok ?_ ?_ ?_ ?_); (focus kernel_rfl); (focus kernel_rfl); (focus (decide +kernel)))
        | (with_reducible refine aw_label ?_)
        | ((with_reducible refine aw_rfM ?_ ?_); (focus kernel_rfl))
        | (with_reducible refine aw_skip ?_)
        | (with_reducible refine aw_exit ?_)
        | ((with_reducible refine aw_condM ?_ ?_); (focus kernel_rfl))
        | (with_reducible refine aw_ret ?_)
      ); simp only [↓avP, avQ, if_true, if_false, forall_const, beq_self_eq_true, eq_self, ne_eq, implies_true, reduceIte, Nat.reduceEqDiff, Nat.reduceAdd, Nat.reduceSub, Int.reduceToNat, Nat.reduceLeDiff, Nat.reduceLT, reduceCtorEq, Int.reduceEq, retQ, retL, resV, RetV, RetOk, SubL, intD_B, lotD_B, flowD_B, snocI, snocL, ty_3, ty_28, ty_4, ty_24, ty_30, ty_22, ty_25, issD_get, hd2]; try simp (disch := omega) only [av_w, av_t1, av_tp, Int.toNat_natCast]))
  refine aw_loopI (fun k : Nat => ⟨[(0, vIss a), (1, vIss b), (5, vI k)], [], 0⟩) (fun k => k ≤ a.length ∧ ∀ i, i < k → a.getD i [] = b.getD i []) (fun k => a.length - k) 0 ⟨Nat.zero_le _, fun i hi => absurd hi (Nat.not_lt_zero i)⟩ (wk_of [] rfl rfl ?_ ?_) ?_
  · simp only [wkT, wkB, wkB1, subV, subVs, subD, subB, lkN_n, lkN_c, lkT_n, lkT_c, lkB_n, lkB_c, if_true, if_false, reduceIte, Nat.reduceEqDiff, true_and, and_true, and_self, inT, ofA]
    (repeat' (first | exact trivial | rfl | exact rfl | exact subVs_d _ _ | exact subVs_dm _ _ | exact subD_refl _ | refine And.intro ?_ ?_))
  · simp only [wkT, wkB, wkB1, subV, subVs, subD, subB, lkN_n, lkN_c, lkT_n, lkT_c, lkB_n, lkB_c, if_true, if_false, reduceIte, Nat.reduceEqDiff, true_and, and_true, and_self, inT, ofA]
    (repeat' (first | exact trivial | rfl | exact rfl | exact subVs_d _ _ | exact subVs_dm _ _ | exact subD_refl _ | refine And.intro ?_ ?_))
  rintro k ⟨hk, h0⟩
  rcases Nat.lt_or_ge k a.length with hlt | hge
  · have hd := ltd hlt
    have s1 := sameInts_spec (a.getD k []) (b.getD k []) (hx k)
    by_cases e2 : a.getD k [] = b.getD k []
    rotate_left
    · have g2 : decide (a.getD k [] = b.getD k []) = false := decide_eq_false e2
      repeat' (first
        | (with_reducible refine aw_seq ?_)
        | ((with_reducible refine twoG_intro ?_ ?_) <;> intro hTw <;> first | (exact Bool.noConfusion hTw) | ((try simp only [hTw, Bool.not_true, Bool.not_false, Bool.true_and, Bool.false_and, Bool.and_true, Bool.and_false, Bool.true_or, Bool.false_or, Bool.or_true, Bool.or_false]); (first | (guard_hyp hTw : true = true; clear hTw) | (guard_hyp hTw : false = false; clear hTw) | (revert hTw; intro _))))
        | ((with_reducible refine two_intro ?_ ?_) <;> intro hTw <;> first | (exact Bool.noConfusion hTw) | ((first | (guard_hyp hTw : true = true; clear hTw) | (guard_hyp hTw : false = false; clear hTw) | (revert hTw; intro _))))
        | ((with_reducible refine And.intro ?_ ?_); (focus (first | omega | rfl | decide | grind)))
        | (with_reducible refine aw_block ?_)
        | (with_reducible refine aw_scope ?_)
        | ((first
            | ((with_reducible refine aw_regionA T_ok ?_ ?_); (focus kernel_rfl))
            | ((with_reducible refine aw_drawnA T_ok ?_ ?_ ?_ ?_); (focus kernel_rfl); (focus kernel_rfl); (focus (decide +kernel)))
            | ((with_reducible refine aw_drawnF T_ok ?_ ?_ ?_ ?_); (focus kernel_rfl); (focus kernel_rfl); (focus (decide +kernel)))
            | ((with_reducible refine callK_intro (s1) (by with_unfolding_all rfl) ?_ ?_); (focus kernel_rfl))
            | ((with_reducible refine callI_spec (s1) (by with_unfolding_all rfl) ?_ ?_ ?_); (focus kernel_rfl); (focus kernel_rfl))
            | (with_reducible refine aw_label ?_)
            | ((with_reducible refine aw_rfM ?_ ?_); (focus kernel_rfl))
            | (with_reducible refine aw_skip ?_)
            | (with_reducible refine aw_exit ?_)
            | ((with_reducible refine aw_condM ?_ ?_); (focus kernel_rfl))
            | (with_reducible refine aw_ret ?_)
          ); simp only [↓avP, avQ, if_true, if_false, forall_const, beq_self_eq_true, eq_self, ne_eq, implies_true, reduceIte, Nat.reduceEqDiff, Nat.reduceAdd, Nat.reduceSub, Int.reduceToNat, Nat.reduceLeDiff, Nat.reduceLT, reduceCtorEq, Int.reduceEq, retQ, retL, resV, RetV, RetOk, SubL, intD_B, lotD_B, flowD_B, snocI, snocL, ty_3, ty_28, ty_4, ty_24, ty_30, ty_22, ty_25, issD_get, hd, g2]; try simp (disch := omega) only [av_w, av_t1, av_tp, Int.toNat_natCast]))
      exact Sub.of_eq (congrArg aB (decide_eq_false (fun e => e2 (by rw [e])))).symm
    have g2 : decide (a.getD k [] = b.getD k []) = true := decide_eq_true e2
    repeat' (first
      | (with_reducible refine aw_seq ?_)
      | ((with_reducible refine twoG_intro ?_ ?_) <;> intro hTw <;> first | (exact Bool.noConfusion hTw) | ((try simp only [hTw, Bool.not_true, Bool.not_false, Bool.true_and, Bool.false_and, Bool.and_true, Bool.and_false, Bool.true_or, Bool.false_or, Bool.or_true, Bool.or_false]); (first | (guard_hyp hTw : true = true; clear hTw) | (guard_hyp hTw : false = false; clear hTw) | (revert hTw; intro _))))
      | ((with_reducible refine two_intro ?_ ?_) <;> intro hTw <;> first | (exact Bool.noConfusion hTw) | ((first | (guard_hyp hTw : true = true; clear hTw) | (guard_hyp hTw : false = false; clear hTw) | (revert hTw; intro _))))
      | ((with_reducible refine And.intro ?_ ?_); (focus (first | omega | rfl | decide | grind)))
      | (with_reducible refine aw_block ?_)
      | (with_reducible refine aw_scope ?_)
      | ((first
          | ((with_reducible refine aw_regionA T_ok ?_ ?_); (focus kernel_rfl))
          | ((with_reducible refine aw_drawnA T_ok ?_ ?_ ?_ ?_); (focus kernel_rfl); (focus kernel_rfl); (focus (decide +kernel)))
          | ((with_reducible refine aw_drawnF T_ok ?_ ?_ ?_ ?_); (focus kernel_rfl); (focus kernel_rfl); (focus (decide +kernel)))
          | ((with_reducible refine callK_intro (s1) (by with_unfolding_all rfl) ?_ ?_); (focus kernel_rfl))
          | ((with_reducible refine callI_spec (s1) (by with_unfolding_all rfl) ?_ ?_ ?_); (focus kernel_rfl); (focus kernel_rfl))
          | (with_reducible refine aw_label ?_)
          | ((with_reducible refine aw_rfM ?_ ?_); (focus kernel_rfl))
          | (with_reducible refine aw_skip ?_)
          | (with_reducible refine aw_exit ?_)
          | ((with_reducible refine aw_condM ?_ ?_); (focus kernel_rfl))
          | (with_reducible refine aw_ret ?_)
        ); simp only [↓avP, avQ, if_true, if_false, forall_const, beq_self_eq_true, eq_self, ne_eq, implies_true, reduceIte, Nat.reduceEqDiff, Nat.reduceAdd, Nat.reduceSub, Int.reduceToNat, Nat.reduceLeDiff, Nat.reduceLT, reduceCtorEq, Int.reduceEq, retQ, retL, resV, RetV, RetOk, SubL, intD_B, lotD_B, flowD_B, snocI, snocL, ty_3, ty_28, ty_4, ty_24, ty_30, ty_22, ty_25, issD_get, hd, g2]; try simp (disch := omega) only [av_w, av_t1, av_tp, Int.toNat_natCast]))
    refine ⟨k + 1, ⟨by omega, fun i hi => by rcases Nat.lt_succ_iff_lt_or_eq.1 hi with h | rfl; exact h0 i h; exact e2⟩, by dsimp only; omega, wk_of [] rfl rfl ?_ ?_⟩
    · simp only [wkT, wkB, wkB1, subV, subVs, subD, subB, lkN_n, lkN_c, lkT_n, lkT_c, lkB_n, lkB_c, if_true, if_false, reduceIte, Nat.reduceEqDiff, true_and, and_true, and_self, inT, ofA]
      (repeat' (first | exact trivial | rfl | exact rfl | exact subVs_d _ _ | exact subVs_dm _ _ | exact subD_refl _ | refine And.intro ?_ ?_))
    · simp only [wkT, wkB, wkB1, subV, subVs, subD, subB, lkN_n, lkN_c, lkT_n, lkT_c, lkB_n, lkB_c, if_true, if_false, reduceIte, Nat.reduceEqDiff, true_and, and_true, and_self, inT, ofA]
      (repeat' (first | exact trivial | rfl | exact rfl | exact subVs_d _ _ | exact subVs_dm _ _ | exact subD_refl _ | refine And.intro ?_ ?_))
  · obtain rfl : k = a.length := by omega
    have hd := ged (Nat.le_refl a.length)
    repeat' (first
      | (with_reducible refine aw_seq ?_)
      | ((with_reducible refine twoG_intro ?_ ?_) <;> intro hTw <;> first | (exact Bool.noConfusion hTw) | ((try simp only [hTw, Bool.not_true, Bool.not_false, Bool.true_and, Bool.false_and, Bool.and_true, Bool.and_false, Bool.true_or, Bool.false_or, Bool.or_true, Bool.or_false]); (first | (guard_hyp hTw : true = true; clear hTw) | (guard_hyp hTw : false = false; clear hTw) | (revert hTw; intro _))))
      | ((with_reducible refine two_intro ?_ ?_) <;> intro hTw <;> first | (exact Bool.noConfusion hTw) | ((first | (guard_hyp hTw : true = true; clear hTw) | (guard_hyp hTw : false = false; clear hTw) | (revert hTw; intro _))))
      | ((with_reducible refine And.intro ?_ ?_); (focus (first | omega | rfl | decide | grind)))
      | (with_reducible refine aw_block ?_)
      | (with_reducible refine aw_scope ?_)
      | ((first
          | ((with_reducible refine aw_regionA T_ok ?_ ?_); (focus kernel_rfl))
          | ((with_reducible refine aw_drawnA T_ok ?_ ?_ ?_ ?_); (focus kernel_rfl); (focus kernel_rfl); (focus (decide +kernel)))
          | ((with_reducible refine aw_drawnF T_ok ?_ ?_ ?_ ?_); (focus kernel_rfl); (focus kernel_rfl); (focus (decide +kernel)))
          | (with_reducible refine aw_label ?_)
          | ((with_reducible refine aw_rfM ?_ ?_); (focus kernel_rfl))
          | (with_reducible refine aw_skip ?_)
          | (with_reducible refine aw_exit ?_)
          | ((with_reducible refine aw_condM ?_ ?_); (focus kernel_rfl))
          | (with_reducible refine aw_ret ?_)
        ); simp only [↓avP, avQ, if_true, if_false, forall_const, beq_self_eq_true, eq_self, ne_eq, implies_true, reduceIte, Nat.reduceEqDiff, Nat.reduceAdd, Nat.reduceSub, Int.reduceToNat, Nat.reduceLeDiff, Nat.reduceLT, reduceCtorEq, Int.reduceEq, retQ, retL, resV, RetV, RetOk, SubL, intD_B, lotD_B, flowD_B, snocI, snocL, ty_3, ty_28, ty_4, ty_24, ty_30, ty_22, ty_25, issD_get, hd]; try simp (disch := omega) only [av_w, av_t1, av_tp, Int.toNat_natCast]))
    exact Sub.of_eq (congrArg aB (decide_eq_true (lists_ext h2 h0)).symm)
def fewW (f : FlowP) : Bool := fewF f && decide (f.lots.length ≤ 12) && (decide (f.senders ≤ 12) || decide (f.senders > 64))
theorem qwfew_spec (f : FlowP) (hl : f.lots.length ≤ 140737488351232) : Spec Try.prog 24 [.agg (flowD f)] (.r1 (aB (fewW f))) := by
  refine spec_of T_ok Try.func24 (by dsimp only [Try.f24]) rfl rfl (by simp) fun w F => ?_
  have h := ffew_spec f hl
  cases h1 : fewF f with
  | false =>
    rw [h1] at h
    repeat' (first
      | (with_reducible refine aw_seq ?_)
      | ((with_reducible refine twoG_intro ?_ ?_) <;> intro hTw <;> first | (exact Bool.noConfusion hTw) | ((try simp only [hTw, Bool.not_true, Bool.not_false, Bool.true_and, Bool.false_and, Bool.and_true, Bool.and_false, Bool.true_or, Bool.false_or, Bool.or_true, Bool.or_false]); (first | (guard_hyp hTw : true = true; clear hTw) | (guard_hyp hTw : false = false; clear hTw) | (revert hTw; intro _))))
      | ((with_reducible refine two_intro ?_ ?_) <;> intro hTw <;> first | (exact Bool.noConfusion hTw) | ((first | (guard_hyp hTw : true = true; clear hTw) | (guard_hyp hTw : false = false; clear hTw) | (revert hTw; intro _))))
      | ((with_reducible refine And.intro ?_ ?_); (focus (first | omega | rfl | decide | grind)))
      | (with_reducible refine aw_block ?_)
      | (with_reducible refine aw_scope ?_)
      | ((first
          | ((with_reducible refine aw_regionA T_ok ?_ ?_); (focus kernel_rfl))
          | ((with_reducible refine aw_drawnA T_ok ?_ ?_ ?_ ?_); (focus kernel_rfl); (focus kernel_rfl); (focus (decide +kernel)))
          | ((with_reducible refine aw_drawnF T_ok ?_ ?_ ?_ ?_); (focus kernel_rfl); (focus kernel_rfl); (focus (decide +kernel)))
          | ((with_reducible refine callK_intro (h) (by with_unfolding_all rfl) ?_ ?_); (focus kernel_rfl))
          | ((with_reducible refine callI_spec (h) (by with_unfolding_all rfl) ?_ ?_ ?_); (focus kernel_rfl); (focus kernel_rfl))
          | (with_reducible refine aw_label ?_)
          | ((with_reducible refine aw_rfM ?_ ?_); (focus kernel_rfl))
          | (with_reducible refine aw_skip ?_)
          | (with_reducible refine aw_exit ?_)
          | ((with_reducible refine aw_condM ?_ ?_); (focus kernel_rfl))
          | (with_reducible refine aw_ret ?_)
        ); simp only [↓avP, avQ, if_true, if_false, forall_const, beq_self_eq_true, eq_self, ne_eq, implies_true, reduceIte, Nat.reduceEqDiff, Nat.reduceAdd, Nat.reduceSub, Int.reduceToNat, Nat.reduceLeDiff, Nat.reduceLT, reduceCtorEq, Int.reduceEq, retQ, retL, resV, RetV, RetOk, SubL, intD_B, lotD_B, flowD_B, snocI, snocL, ty_3, ty_28, ty_4, ty_24, ty_30, ty_22, ty_25, issD_get]; try simp (disch := omega) only [av_w, av_t1, av_tp, Int.toNat_natCast]))
    all_goals exact Sub.of_eq (congrArg aB (by simp [fewW, h1]))
  | true =>
    rw [h1] at h
    repeat' (first
      | (with_reducible refine aw_seq ?_)
      | ((with_reducible refine twoG_intro ?_ ?_) <;> intro hTw <;> first | (exact Bool.noConfusion hTw) | ((try simp only [hTw, Bool.not_true, Bool.not_false, Bool.true_and, Bool.false_and, Bool.and_true, Bool.and_false, Bool.true_or, Bool.false_or, Bool.or_true, Bool.or_false]); (first | (guard_hyp hTw : true = true; clear hTw) | (guard_hyp hTw : false = false; clear hTw) | (revert hTw; intro _))))
      | ((with_reducible refine two_intro ?_ ?_) <;> intro hTw <;> first | (exact Bool.noConfusion hTw) | ((first | (guard_hyp hTw : true = true; clear hTw) | (guard_hyp hTw : false = false; clear hTw) | (revert hTw; intro _))))
      | ((with_reducible refine And.intro ?_ ?_); (focus (first | omega | rfl | decide | grind)))
      | (with_reducible refine aw_block ?_)
      | (with_reducible refine aw_scope ?_)
      | ((first
          | ((with_reducible refine aw_regionA T_ok ?_ ?_); (focus kernel_rfl))
          | ((with_reducible refine aw_drawnA T_ok ?_ ?_ ?_ ?_); (focus kernel_rfl); (focus kernel_rfl); (focus (decide +kernel)))
          | ((with_reducible refine aw_drawnF T_ok ?_ ?_ ?_ ?_); (focus kernel_rfl); (focus kernel_rfl); (focus (decide +kernel)))
          | ((with_reducible refine callK_intro (h) (by with_unfolding_all rfl) ?_ ?_); (focus kernel_rfl))
          | ((with_reducible refine callI_spec (h) (by with_unfolding_all rfl) ?_ ?_ ?_); (focus kernel_rfl); (focus kernel_rfl))
          | (with_reducible refine aw_label ?_)
          | ((with_reducible refine aw_rfM ?_ ?_); (focus kernel_rfl))
          | (with_reducible refine aw_skip ?_)
          | (with_reducible refine aw_exit ?_)
          | ((with_reducible refine aw_condM ?_ ?_); (focus kernel_rfl))
          | (with_reducible refine aw_ret ?_)
        ); simp only [↓avP, avQ, if_true, if_false, forall_const, beq_self_eq_true, eq_self, ne_eq, implies_true, reduceIte, Nat.reduceEqDiff, Nat.reduceAdd, Nat.reduceSub, Int.reduceToNat, Nat.reduceLeDiff, Nat.reduceLT, reduceCtorEq, Int.reduceEq, retQ, retL, resV, RetV, RetOk, SubL, intD_B, lotD_B, flowD_B, snocI, snocL, ty_3, ty_28, ty_4, ty_24, ty_30, ty_22, ty_25, issD_get]; try simp (disch := omega) only [av_w, av_t1, av_tp, Int.toNat_natCast]))
    all_goals exact Sub.of_eq (congrArg aB (by simp only [fewW, h1, Bool.true_and, show decide ((f.lots.length : Int) ≤ 12) = decide (f.lots.length ≤ 12) from by rw [decide_eq_decide]; omega]))
end Go.Proofs.Ytnlaiaklafjamaa


namespace Go.Proofs.Ytnlaiaklafjamaa
set_option linter.unusedVariables false
set_option linter.unusedSimpArgs false
open Go.RowKit
/-- a written row that is written no more, wherever it is held -/
def frz1 (n : Nat) (v : V) : V → V
  | .mo m => if m = n then v else .mo m
  | x => x
def frz2 (n : Nat) (v : V) : V → V
  | .agg cs => .agg (cs.map (frz1 n v))
  | x => frz1 n v x
def frzS (n : Nat) (v : V) : List (Nat × V) → List (Nat × V)
  | [] => []
  | (t, x) :: l => (t, frz2 n v x) :: frzS n v l
def frzK (n : Nat) (v : V) : Blk → Blk
  | .cells t cs => .cells t (cs.map (frz1 n v))
  | x => x
def frzM (n : Nat) (v : V) : List (Nat × Blk) → List (Nat × Blk)
  | [] => []
  | (t, x) :: l => (t, frzK n v x) :: frzM n v l
section
variable {P : Program} {B : Base} {s : St} {E : Env} {n : Nat} {v : V}
theorem frz1_ok (h : ∀ u, RV E (.mo n) u → RV E v u) {x : V} {u : Value} (hx : RV E x u) : RV E (frz1 n v x) u := by
  cases x <;> try exact hx
  rename_i m
  unfold frz1
  by_cases hm : m = n
  · subst hm; simp only [if_true]; exact h u hx
  · simp only [hm, if_false]; exact hx
theorem frz1s_ok (h : ∀ u, RV E (.mo n) u → RV E v u) : ∀ {xs : List V} {us : List Value}, RVL E xs us → RVL E (xs.map (frz1 n v)) us
  | [], us, k => k
  | x :: xs, us, k => by
    simp only [List.map_cons, RVL] at k ⊢
    obtain ⟨u, r, h1, h2, h3⟩ := k
    exact ⟨u, r, h1, frz1_ok h h2, frz1s_ok h h3⟩
theorem frz2_ok (h : ∀ u, RV E (.mo n) u → RV E v u) {x : V} {u : Value} (hx : RV E x u) : RV E (frz2 n v x) u := by
  cases x <;> try exact frz1_ok h hx
  simp only [frz2, RV] at hx ⊢
  obtain ⟨us, h1, h2, h3⟩ := hx
  exact ⟨us, h1, frz1s_ok h h2, h3⟩
theorem lkT_frzS (t : Nat) : ∀ l : List (Nat × V), lkT (frzS n v l) t = frz2 n v (lkT l t) ∨ (lkT l t = .any ∧ lkT (frzS n v l) t = .any)
  | [] => .inr ⟨rfl, rfl⟩
  | (u, x) :: l => by
    simp only [frzS, lkT]
    by_cases h : t = u
    · rw [if_pos h, if_pos h]; exact .inl rfl
    · rw [if_neg h, if_neg h]; exact lkT_frzS t l
theorem lkB_frzM (t : Nat) : ∀ l : List (Nat × Blk), lkB (frzM n v l) t = (lkB l t).map (frzK n v)
  | [] => rfl
  | (u, x) :: l => by
    simp only [frzM, lkB]
    by_cases h : t = u
    · rw [if_pos h, if_pos h]; rfl
    · rw [if_neg h, if_neg h]; exact lkB_frzM t l
theorem gam_frzD {el sz : Nat} {d0V : List V} {d0 : List D} {esV : List (List V)} {es : List (List D)} (hn : lkB s.st n = some (.row el sz d0V esV)) (hes : esV = es.map dV) {a : Act} (hG : Gam P B s E a) :
    ∃ E', E'.w = E.w ∧ Gam P B ⟨frzS n (.ow n sz d0 es) s.tm, setB n (.tok el sz es.length) (frzM n (.ow n sz d0 es) s.st), s.nx⟩ E' a := by
  subst hes
  obtain ⟨v, us, h1, h2, h3, h4, h5, h6, h7⟩ := hG.1.st n _ hn
  rw [List.length_map] at h2 h6
  rw [flat_dV] at h3
  let F' : Ft := ⟨fun b o => E.F.c b o ∨ (hb v = some b ∧ o < es.length * sz), E.F.m⟩
  have hle : E.F.le F' := ⟨fun _ _ h => .inl h, fun _ h => h⟩
  let E' : Env := ⟨E.η, F', E.w, E.dp⟩
  have hext : Ext E E' := ⟨fun _ _ h => h, hle, Kp.refl _ _⟩
  have hlen : us.length = es.length * sz := h2.1
  have hrow : RD F' E.w (.sl sz d0 es) v := by
    obtain ⟨a', cap, rfl, hcap⟩ := own_form h2
    simp only [RD]
    refine ⟨a', cap, rfl, by omega, by omega, ?_⟩
    rcases h2.2 with ⟨e8, h0⟩ | ⟨g, cap', cur, e8, _⟩
    · have : es = [] := List.eq_nil_of_length_eq_zero (by omega)
      rw [this]; simp [RR]
    · cases e8
      have hd : RDL F' E.w es.flatten us := RVL.to_data (E := E') (RVL.mono hext _ _ h3)
      refine RR.of_cells hd (fun e he => ?_) h5 (fun j u hj => ⟨.inr ⟨rfl, ?_⟩, ?_⟩)
      · have := h4 (dV e) (List.mem_map_of_mem he)
        simpa [dV] using this
      · have := (List.getElem?_eq_some_iff.1 hj).1
        omega
      · have := h2.cells (g := g) rfl j u hj
        rw [Addr.add_any] at this
        simpa using this
  have hmo : ∀ u, RV E' (.mo n) u → RV E' (.ow n sz d0 es) u := fun u hu => by
    simp only [RV] at hu ⊢
    have : v = u := Option.some.inj (h1.symm.trans hu.1)
    exact ⟨hu.1, by rw [← this]; exact hrow⟩
  have new : ∀ b o, F'.c b o → E.F.c b o ∨ (hb v = some b ∧ o < es.length * sz) := fun _ _ h => h
  have old : ∀ m y, lkB (setB n (.tok el sz es.length) (frzM n (.ow n sz d0 es) s.st)) m = some y → ∃ y', lkB s.st m = some y' ∧ (m ≠ n → y = frzK n (.ow n sz d0 es) y') := fun m y hy => by
    rw [lkB_setB] at hy
    by_cases hm : m = n
    · exact ⟨_, by rw [hm]; exact hn, fun h => (h hm).elim⟩
    · rw [if_neg hm, lkB_frzM] at hy
      cases h : lkB s.st m with
      | none => rw [h] at hy; cases hy
      | some y' => rw [h] at hy; exact ⟨y', rfl, fun _ => (Option.some.inj hy).symm⟩
  refine ⟨E', rfl, ⟨hG.1.os, hG.1.tape, hG.1.output, hG.1.size, hG.1.old, Ft.le_trans hG.1.F0 hle, fun b o hc => ?_, hG.1.Fm, fun m y hy => ?_, fun i j p q b' v' u hij hpi hqj hvi huj hbi => ?_, hG.1.fresh, fun D hD => ?_⟩, fun t => ?_, hG.2.defers, hG.2.size⟩
  · rcases new b o hc with hc | ⟨hc, _⟩
    · exact hG.1.Fc b o hc
    · have hok := h7 b hc
      exact ⟨hok.1.elim (fun h => .inr (.inl h)) (fun h => .inr (.inr h)), hok.2.1⟩
  · show RBk P B E' m y
    by_cases hm : m = n
    · have hy' := hy
      rw [lkB_setB, if_pos hm] at hy'
      cases hy'
      rw [hm]
      refine ⟨v, us, h1, h2, fun b hb' => ?_⟩
      have hok := h7 b hb'
      exact ⟨hok.1, hok.2.1, hok.2.2.1, fun o ho => (new b o ho).elim (fun h => (hok.2.2.2 o h).elim) (fun h => h.2)⟩
    · obtain ⟨y', hy', hyy⟩ := old m y hy
      have hyy := hyy hm
      have hk : RBk P B E' m y' := (hG.1.st m y' hy').keep (fun _ h => h) hext (Nat.le_refl _) (fun _ _ _ _ _ => rfl) (fun v' b' p' hv' hb' hok' => ⟨hok'.1, hok'.2.1, hok'.2.2.1, fun o ho => (new b' o ho).elim (hok'.2.2.2 o) (fun h => (hG.1.dist n m _ y' b' v v' (Ne.symm hm) hn hy' h1 hv' h.1 hb').elim)⟩)
      rw [hyy]
      cases y' <;> try exact hk
      obtain ⟨b, us', k1, k2, k3, k4, k5⟩ := hk
      exact ⟨b, us', k1, k2, frz1s_ok hmo k3, k4, k5⟩
  · obtain ⟨p2, hp2, _⟩ := old i p hpi
    obtain ⟨q2, hq2, _⟩ := old j q hqj
    exact hG.1.dist i j p2 q2 b' v' u hij hp2 hq2 hvi huj hbi
  · obtain ⟨d1, d2, d3, d4⟩ := hG.1.dp D hD
    refine ⟨d1, d2, d3, fun o ho => (new D o ho).elim (d4 o) (fun h => ?_)⟩
    exact (hG.1.st n _ hn).nodp h1 h.1 d1
  · show RV E' (lkT (frzS n (.ow n sz d0 es) s.tm) t) _
    rcases lkT_frzS (n := n) (v := .ow n sz d0 es) t s.tm with h | ⟨_, h⟩
    · rw [h]; exact frz2_ok hmo (RV.mono hext _ _ (hG.2.tm t))
    · rw [h]; simp only [RV]
theorem aw_frzD (n : Nat) {el sz : Nat} {d0V : List V} (d0 : List D) {esV : List (List V)} (es : List (List D)) {c : Code} {Q : AQ} (hn : lkB s.st n = some (.row el sz d0V esV)) (hes : esV = es.map dV)
    (h : AW P B c Q ⟨⟩ ⟨frzS n (.ow n sz d0 es) s.tm, setB n (.tok el sz es.length) (frzM n (.ow n sz d0 es) s.st), s.nx⟩) : AW P B c Q ⟨⟩ s :=
  aw_weak (fun _ _ hG => gam_frzD hn hes hG) h
end
end Go.Proofs.Ytnlaiaklafjamaa


namespace Go.Proofs.Ytnlaiaklafjamaa
set_option linter.unusedVariables false
set_option linter.unusedSimpArgs false
open Go.RowKit
theorem frz_dV (n : Nat) (v : V) (l : List D) : (dV l).map (frz1 n v) = dV l := by
  unfold dV
  rw [List.map_map]
  exact List.map_congr_left fun x _ => rfl
section
variable {P : Program} {B : Base} {T : Tab}
/-- an early write, heads and tail given -/
theorem aw_drawnTX (iw n : Nat) (hd tl : List Nat) {id : Nat} {ops : Array Oper} {s : St} {Q : AQ} (hT : TabOk P T) (hm : P.follows .mixedOrders = true) (hl : (ops.toList.all (opOk B.N)) = true) (hok : drawOkS ops.toList (iw :: hd) tl iw = true)
    (hh : (iw :: hd).filter (fun i => i != iw) = hd)
    (h : hwp P T ops s.st s.nx (pickOps ops.toList hd) s.tm [] (fin2 (fun tm nb => earlyK T ops.toList[iw]? n tm s.st (fun st1 => hwp P T ops st1 s.nx (pickOps ops.toList hd) s.tm [] (fin2 (fun tm' nb' => (tm', nb') = (tm, nb) ∧ rwp P B T ops ((pickOps ops.toList tl).map (·.2)) ⟨tm, nb ++ st1, s.nx + ops.toList.length⟩ (Q .normal)) ⟨⟩))) ⟨⟩)) : AW P B (.region id ops true) Q ⟨⟩ s := fun E a hG => by
  obtain ⟨l, rfl⟩ : ∃ l : List Oper, ops = l.toArray := ⟨ops.toList, by simp⟩
  simp only [List.toList_toArray] at hl hok hh h
  have hops0 : ∀ o ∈ l.toArray.toList, opOk B.N o = true := fun o ho => List.all_eq_true.1 hl o (by simpa using ho)
  have hc : ((pickOps l hd).all fun p => p.2.op.operands.toList.all (constOk B.N)) = true := List.all_eq_true.2 fun p hp => by
    have := List.all_eq_true.1 hl p.2 (List.mem_of_getElem? (pickOps_mem.1 hp).2)
    simp only [opOk, Bool.and_eq_true] at this
    exact this.1
  obtain ⟨tmF, nbF, hK, hrun⟩ := hwp_ok (B := B) hT hops0 _ _ _ hc h
  have hG' := gam_drew hG
  have hst0 : ∀ n, s.nx ≤ n → lkB s.st n = none := fun n hn => hG.1.none_of_fresh hn
  unfold fin2 at hK
  obtain ⟨st1, hK2, hst1, hoth, hwr⟩ := early_ok (B := B) hT hl hst0 hK
  obtain ⟨tmF1, nbF1, hK3, hrun1⟩ := hwp_ok (B := B) hT hops0 _ _ _ hc hK2
  obtain ⟨heq, hK1⟩ := hK3
  cases heq
  refine wpIn_region_any hm ?_
  have htail : ((pickOps l tl).map (·.2)).all (opOk B.N) = true := List.all_eq_true.2 fun o ho => by
    obtain ⟨p, hp, rfl⟩ := List.mem_map.1 ho
    exact List.all_eq_true.1 hl p.2 (List.mem_of_getElem? (pickOps_mem.1 hp).2)
  rw [← hh] at hrun hrun1
  have := wpAny_headsS (Q := AQQ P B Q) hok hrun hrun1 hl hst0 hst1 (fun _ _ hb => hb) (fun _ _ hb => hb) hwr (fun E a hG => rwp_list hT hops0 _ _ _ htail hK1 (fun s' hs E a hG => ⟨E, s', rfl, hG, hs⟩) E a hG) (iw :: hd).length (Array.replicate l.toArray.size false) ⟨E.η, E.F, { E.w with drawn := E.w.drawn + 1 }, E.dp⟩ a
    ⟨by simp, fun j oj _ hl => (by rw [getD_replicate_false] at hl; cases hl)⟩ (fun t _ => getD_replicate_false _ _) (by
      rw [List.countP_eq_length]; intro i _; rw [getD_replicate_false]; rfl)
    (hG'.1.congr (fun n => by
      rw [getD_replicate_false, getD_replicate_false]
      by_cases hn : s.nx ≤ n
      · rw [if_pos hn, if_neg (by simp), hst0 n hn]
      · rw [if_neg hn, if_neg (by simp)]) (fun n hn => hn.1))
    ⟨fun t => by
      have : ((pickOps l ((iw :: hd).filter (fun i => i != iw))).any fun p => p.2.dst == some t && (Array.replicate l.toArray.size false).getD p.1 false) = false := by
        rw [List.any_eq_false]; intro p _; rw [getD_replicate_false]; simp
      rw [this, if_neg (by simp)]
      exact hG'.2.tm t, hG'.2.defers, hG'.2.size⟩
  have hlen : (iw :: hd).length + tl.length = l.length := by
    simp only [drawOkS, Bool.and_eq_true, decide_eq_true_eq] at hok
    exact hok.1.1.2
  rw [hlen] at this
  simpa using this
/-- the walk stands at a region -/
structure StopAt (p : Prop) : Prop where
  go : p
theorem aw_stop {id : Nat} {ops : Array Oper} {b : Bool} {s : St} {Q : AQ} (h : StopAt (AW P B (.region id ops b) Q ⟨⟩ s)) : AW P B (.region id ops b) Q ⟨⟩ s := h.go
end
end Go.Proofs.Ytnlaiaklafjamaa

