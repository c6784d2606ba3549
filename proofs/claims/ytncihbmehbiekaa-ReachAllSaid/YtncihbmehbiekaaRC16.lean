import Derived.Test.YtncihbmehbiekaaRC15
import Derived.Test.YtncihbmehbiekaaRC12
namespace Go.Proofs.Ytncihbmehbiekaa
set_option linter.unusedSimpArgs false
set_option linter.unusedVariables false
open Go.RowKit
set_option maxRecDepth 100000
set_option maxHeartbeats 4000000
theorem wmatrix_spec (f : FlowP) (hf : OkF f) : Spec Try.prog 16 [.agg (flowD f)] (.rt [aIss (matR f), aI (checkF f)]) := by
  refine spec_of T_ok Try.func16 (by dsimp only [Try.f16]) rfl rfl (by simp) fun w F => ?_
  have hE := fends_spec f hf
  by_cases hc : checkF f = 0
  rotate_left
  · have hd : (checkF f != 0) = true := by simpa using hc
    repeat' (first
      | (with_reducible refine aw_seq ?_)
      | ((with_reducible refine twoG_intro ?_ ?_) <;> intro hTw <;> first | (exact Bool.noConfusion hTw) | ((try simp only [hTw, Bool.not_true, Bool.not_false, Bool.true_and, Bool.false_and, Bool.and_true, Bool.and_false, Bool.true_or, Bool.false_or, Bool.or_true, Bool.or_false]); (first | (guard_hyp hTw : true = true; clear hTw) | (guard_hyp hTw : false = false; clear hTw) | (revert hTw; intro _))))
      | ((with_reducible refine two_intro ?_ ?_) <;> intro hTw <;> first | (exact Bool.noConfusion hTw) | ((first | (guard_hyp hTw : true = true; clear hTw) | (guard_hyp hTw : false = false; clear hTw) | (revert hTw; intro _))))
      | ((with_reducible refine And.intro ?_ ?_); (focus (first | omega | rfl | decide | grind)))
      | (with_reducible refine aw_block ?_)
      | (with_reducible refine aw_scope ?_)
      | ((first
          | ((with_reducible refine aw_regionA T_ok ?_ ?_); (focus kernel_rfl))
          | ((with_reducible refine aw_drawnA T_ok ?_ ?_ ?_ ?_); (focus kernel_rfl); (focus kernel_rfl); (focus (decide +kernel)))
          | ((with_reducible refine aw_drawnF T_ok ?_ ?_ ?_ ?_); (focus kernel_rfl); (focus kernel_rfl); (focus (decide +kernel)))
          | ((with_reducible refine callK_intro (hE) (by with_unfolding_all rfl) ?_ ?_); (focus kernel_rfl))
          | ((with_reducible refine callI_spec (hE) (by with_unfolding_all rfl) ?_ ?_ ?_); (focus kernel_rfl); (focus kernel_rfl))
          | (with_reducible refine aw_label ?_)
          | ((with_reducible refine aw_rfM ?_ ?_); (focus kernel_rfl))
          | (with_reducible refine aw_skip ?_)
          | (with_reducible refine aw_exit ?_)
          | ((with_reducible refine aw_condM ?_ ?_); (focus kernel_rfl))
          | (with_reducible refine aw_ret ?_)
        ); simp only [↓avP, avQ, if_true, if_false, forall_const, beq_self_eq_true, eq_self, ne_eq, implies_true, reduceIte, Nat.reduceEqDiff, Nat.reduceAdd, Nat.reduceSub, Int.reduceToNat, Nat.reduceLeDiff, Nat.reduceLT, reduceCtorEq, Int.reduceEq, retQ, retL, resV, RetV, RetOk, SubL, intD_B, u64D_B, lotD_B, flowD_B, snocI, snocL, snocIsW, ty_3, ty_86, ty_73, ty_27, ty_4, ty_24, ty_40, ty_22, ty_31, hd]; try simp (disch := omega) only [av_w, av_t1, av_tp, Int.toNat_natCast]))
    rw [matR, if_neg hc]
    exact ⟨Sub.nil _ _, Sub.refl _⟩
  rw [hc] at hE ⊢
  rw [show endsR f = endsF f by rw [endsR, if_pos hc]] at hE
  have hEl := endsF_le hc
  have hh := fun {n : Nat} (hn : (n : Int) < f.senders) {t : Int} (ht : t ∈ endsF f) => has_end (n := n) hc hn ht
  obtain ⟨z1, z2, z3, z4, z5⟩ := checkF_zero hc
  obtain ⟨N, hN⟩ : ∃ N : Nat, f.senders = N := ⟨f.senders.toNat, by omega⟩
  have hR : matR f = matA f N := by rw [matR, if_pos hc, hN]; rfl
  have hend : ∀ n : Nat, endS f n = (endsF f).filter fun t => decide (t ∈ spL f n f.lots.length) := fun n => rfl
  obtain ⟨E, hEe⟩ : ∃ E, E = endsF f := ⟨_, rfl⟩
  simp only [← hEe] at hE hEl hh hend
  repeat' (first
    | (with_reducible refine aw_seq ?_)
    | ((with_reducible refine twoG_intro ?_ ?_) <;> intro hTw <;> first | (exact Bool.noConfusion hTw) | ((try simp only [hTw, Bool.not_true, Bool.not_false, Bool.true_and, Bool.false_and, Bool.and_true, Bool.and_false, Bool.true_or, Bool.false_or, Bool.or_true, Bool.or_false]); (first | (guard_hyp hTw : true = true; clear hTw) | (guard_hyp hTw : false = false; clear hTw) | (revert hTw; intro _))))
    | ((with_reducible refine two_intro ?_ ?_) <;> intro hTw <;> first | (exact Bool.noConfusion hTw) | ((first | (guard_hyp hTw : true = true; clear hTw) | (guard_hyp hTw : false = false; clear hTw) | (revert hTw; intro _))))
    | ((with_reducible refine And.intro ?_ ?_); (focus (first | omega | rfl | decide | grind)))
    | (with_reducible refine aw_block ?_)
    | (with_reducible refine aw_scope ?_)
    | ((first
        | ((with_reducible refine aw_regionA T_ok ?_ ?_); (focus kernel_rfl))
        | ((with_reducible refine aw_drawnA T_ok ?_ ?_ ?_ ?_); (focus kernel_rfl); (focus kernel_rfl); (focus (decide +kernel)))
        | ((with_reducible refine aw_drawnF T_ok ?_ ?_ ?_ ?_); (focus kernel_rfl); (focus kernel_rfl); (focus (decide +kernel)))
        | ((with_reducible refine callK_intro (hE) (by with_unfolding_all rfl) ?_ ?_); (focus kernel_rfl))
        | ((with_reducible refine callI_spec (hE) (by with_unfolding_all rfl) ?_ ?_ ?_); (focus kernel_rfl); (focus kernel_rfl))
        | (with_reducible refine aw_label ?_)
        | ((with_reducible refine aw_rfM ?_ ?_); (focus kernel_rfl))
        | (with_reducible refine aw_skip ?_)
        | (with_reducible refine aw_exit ?_)
        | ((with_reducible refine aw_condM ?_ ?_); (focus kernel_rfl))
        | (with_reducible refine aw_ret ?_)
      ); simp only [↓avP, avQ, if_true, if_false, forall_const, beq_self_eq_true, eq_self, ne_eq, implies_true, reduceIte, Nat.reduceEqDiff, Nat.reduceAdd, Nat.reduceSub, Int.reduceToNat, Nat.reduceLeDiff, Nat.reduceLT, reduceCtorEq, Int.reduceEq, retQ, retL, resV, RetV, RetOk, SubL, intD_B, u64D_B, lotD_B, flowD_B, snocI, snocL, snocIsW, ty_3, ty_86, ty_73, ty_27, ty_4, ty_24, ty_40, ty_22, ty_31]; try simp (disch := omega) only [av_w, av_t1, av_tp, Int.toNat_natCast]))
  refine aw_loopI (fun s : Nat => ⟨[(1, .ptr 0 0), (2, .ow 1 1 (issD []) ((matA f s).map issD)), (4, vIs E), (15, vI f.senders), (16, vI s)], [(1, .tok 27 1 (matA f s).length), (0, .cells 24 (dV (flowD f)))], 2⟩)
    (fun s => s ≤ N) (fun s => N - s) 0 (Nat.zero_le _) (wk_of [(0, some 0), (1, none)] rfl rfl ?_ ?_) ?_
  · simp only [wkT, wkB, wkB1, subV, subVs, subD, subB, lkN_n, lkN_c, lkT_n, lkT_c, lkB_n, lkB_c, if_true, if_false, reduceIte, Nat.reduceEqDiff, true_and, and_true, and_self, inT, ofA]
    (repeat' (first | exact trivial | rfl | exact rfl | exact subVs_d _ _ | exact subVs_dm _ _ | exact subD_refl _ | refine And.intro ?_ ?_))
  · simp only [wkT, wkB, wkB1, subV, subVs, subD, subB, lkN_n, lkN_c, lkT_n, lkT_c, lkB_n, lkB_c, if_true, if_false, reduceIte, Nat.reduceEqDiff, true_and, and_true, and_self, inT, ofA]
    (repeat' (first | exact trivial | rfl | exact rfl | exact subVs_d _ _ | exact subVs_dm _ _ | exact subD_refl _ | refine And.intro ?_ ?_))
  intro s hs
  have hml := matA_len f s
  have hms := matA_succ f s
  rcases Nat.lt_or_ge s N with hlt | hge
  · have hd2 : decide ((s : Int) < f.senders) = true := decide_eq_true (by omega)
    have hh := fun {t : Int} (ht : t ∈ E) => hh (n := s) (by omega) ht
    have hsp := wspots_spec f s hf hc (by omega)
    have hend := hend s
    obtain ⟨p, hp⟩ : ∃ p : Int → Bool, p = fun t => decide (t ∈ spL f s f.lots.length) := ⟨_, rfl⟩
    obtain ⟨ws, hws⟩ : ∃ ws, ws = spW f s f.lots.length := ⟨_, rfl⟩
    have hh : ∀ {t : Int}, t ∈ E → Spec Try.prog 55 [aWs ws, aI t] (.r1 (aB (p t))) := fun {t} ht => by
      rw [hws, hp]; exact hh ht
    rw [← hp] at hend
    rw [← hws] at hsp
    repeat' (first
      | (with_reducible refine aw_seq ?_)
      | ((with_reducible refine twoG_intro ?_ ?_) <;> intro hTw <;> first | (exact Bool.noConfusion hTw) | ((try simp only [hTw, Bool.not_true, Bool.not_false, Bool.true_and, Bool.false_and, Bool.and_true, Bool.and_false, Bool.true_or, Bool.false_or, Bool.or_true, Bool.or_false]); (first | (guard_hyp hTw : true = true; clear hTw) | (guard_hyp hTw : false = false; clear hTw) | (revert hTw; intro _))))
      | ((with_reducible refine two_intro ?_ ?_) <;> intro hTw <;> first | (exact Bool.noConfusion hTw) | ((first | (guard_hyp hTw : true = true; clear hTw) | (guard_hyp hTw : false = false; clear hTw) | (revert hTw; intro _))))
      | ((with_reducible refine And.intro ?_ ?_); (focus (first | omega | rfl | decide | grind)))
      | (with_reducible refine aw_block ?_)
      | (with_reducible refine aw_scope ?_)
      | ((first
          | ((with_reducible refine aw_regionA T_ok ?_ ?_); (focus kernel_rfl))
          | ((with_reducible refine aw_drawnA T_ok ?_ ?_ ?_ ?_); (focus kernel_rfl); (focus kernel_rfl); (focus (decide +kernel)))
          | ((with_reducible refine aw_drawnF T_ok ?_ ?_ ?_ ?_); (focus kernel_rfl); (focus kernel_rfl); (focus (decide +kernel)))
          | ((with_reducible apply callI_in T_ok Try.func33); (focus (dsimp only [Try.f33])); (focus rfl); (focus rfl); (focus kernel_rfl); (focus exact of_decide_eq_true (by kernel_rfl)); (focus kernel_rfl); (focus kernel_rfl); intro _)
          | ((with_reducible apply callI_in T_ok Try.func32); (focus (dsimp only [Try.f32])); (focus rfl); (focus rfl); (focus kernel_rfl); (focus exact of_decide_eq_true (by kernel_rfl)); (focus kernel_rfl); (focus kernel_rfl); intro _)
          | ((with_reducible apply callI_in T_ok Try.func52); (focus (dsimp only [Try.f52])); (focus rfl); (focus rfl); (focus kernel_rfl); (focus exact of_decide_eq_true (by kernel_rfl)); (focus kernel_rfl); (focus kernel_rfl); intro _)
          | ((with_reducible apply rfI_in Try.func53); (focus (dsimp only [Try.f53])); (focus (dsimp only [Base.inn, Base.inr])); (focus rfl); (focus rfl); (focus kernel_rfl); (focus exact of_decide_eq_true (by kernel_rfl)); (focus kernel_rfl); intro aL L hLp hLa hLb hLt)
          | ((with_reducible refine callK_intro (hsp) (by with_unfolding_all rfl) ?_ ?_); (focus kernel_rfl))
          | ((with_reducible refine callI_spec (hsp) (by with_unfolding_all rfl) ?_ ?_ ?_); (focus kernel_rfl); (focus kernel_rfl))
          | (with_reducible refine aw_label ?_)
          | ((with_reducible refine aw_rfM ?_ ?_); (focus kernel_rfl))
          | (with_reducible refine aw_skip ?_)
          | (with_reducible refine aw_exit ?_)
          | ((with_reducible refine aw_condM ?_ ?_); (focus kernel_rfl))
          | (with_reducible refine aw_ret ?_)
        ); simp only [↓avP, avQ, if_true, if_false, forall_const, beq_self_eq_true, eq_self, ne_eq, implies_true, reduceIte, Nat.reduceEqDiff, Nat.reduceAdd, Nat.reduceSub, Int.reduceToNat, Nat.reduceLeDiff, Nat.reduceLT, reduceCtorEq, Int.reduceEq, retQ, retL, resV, RetV, RetOk, SubL, intD_B, u64D_B, lotD_B, flowD_B, snocI, snocL, snocIsW, ty_3, ty_86, ty_73, ty_27, ty_4, ty_24, ty_40, ty_22, ty_31, hd2]; try simp (disch := omega) only [av_w, av_t1, av_tp, Int.toNat_natCast]))
    refine aw_loopI (fun k : Nat => ⟨[(0, .yl 7), (5, .d (.sl 1 (u64D 0) (ws.map u64D))), (11, vIs E), (12, vI E.length), (13, vI k), (29, .ptr 6 0), (46, .ptr 0 0), (47, .ow 1 1 (issD []) ((matA f s).map issD)), (49, vIs E), (60, vI f.senders), (61, vI s), (64, .ow 1 1 (issD []) ((matA f s).map issD))],
        [(7, .loop L .ready none), (6, .cells 27 [.ow 8 1 (intD 0) (((E.take k).filter p).map intD)]), (8, .tok 3 1 ((E.take k).filter p).length), (1, .tok 27 1 (matA f s).length), (0, .cells 24 (dV (flowD f)))], 9⟩)
      (fun k => k ≤ E.length) (fun k => E.length - k) 0 (Nat.zero_le _) (wk_of [(0, some 0), (1, some 1), (6, some 5), (7, some 6), (8, none)] rfl rfl ?_ ?_) ?_
    · simp only [wkT, wkB, wkB1, subV, subVs, subD, subB, lkN_n, lkN_c, lkT_n, lkT_c, lkB_n, lkB_c, if_true, if_false, reduceIte, Nat.reduceEqDiff, true_and, and_true, and_self, inT, ofA]
      (repeat' (first | exact trivial | rfl | exact rfl | exact subVs_d _ _ | exact subVs_dm _ _ | exact subD_refl _ | refine And.intro ?_ ?_))
    · simp only [wkT, wkB, wkB1, subV, subVs, subD, subB, lkN_n, lkN_c, lkT_n, lkT_c, lkB_n, lkB_c, if_true, if_false, reduceIte, Nat.reduceEqDiff, true_and, and_true, and_self, inT, ofA]
      (repeat' (first | exact trivial | rfl | exact rfl | exact subVs_d _ _ | exact subVs_dm _ _ | exact subD_refl _ | refine And.intro ?_ ?_))
    intro k hk
    have hfl := filter_lenW E p k
    have hfs := fun h => filter_succW (l := E) p (k := k) h
    obtain ⟨X, hX⟩ : ∃ X, X = (E.take k).filter p := ⟨_, rfl⟩
    rw [← hX] at hfl hfs ⊢
    rcases Nat.lt_or_ge k E.length with hlt | hge
    · have hd2 := ltd hlt
      have hfs := hfs hlt
      have h1 := hh (getD_mem hlt)
      cases hb : p (E.getD k 0) with
      | true =>
        rw [hb] at h1
        rw [if_pos hb] at hfs
        repeat' (first
          | (with_reducible refine aw_seq ?_)
          | ((with_reducible refine twoG_intro ?_ ?_) <;> intro hTw <;> first | (exact Bool.noConfusion hTw) | ((try simp only [hTw, Bool.not_true, Bool.not_false, Bool.true_and, Bool.false_and, Bool.and_true, Bool.and_false, Bool.true_or, Bool.false_or, Bool.or_true, Bool.or_false]); (first | (guard_hyp hTw : true = true; clear hTw) | (guard_hyp hTw : false = false; clear hTw) | (revert hTw; intro _))))
          | ((with_reducible refine two_intro ?_ ?_) <;> intro hTw <;> first | (exact Bool.noConfusion hTw) | ((first | (guard_hyp hTw : true = true; clear hTw) | (guard_hyp hTw : false = false; clear hTw) | (revert hTw; intro _))))
          | ((with_reducible refine And.intro ?_ ?_); (focus (first | omega | rfl | decide | grind)))
          | (with_reducible refine aw_block ?_)
          | (with_reducible refine aw_scope ?_)
          | ((first
              | ((with_reducible refine aw_regionA T_ok ?_ ?_); (focus kernel_rfl))
              | ((with_reducible refine aw_drawnA T_ok ?_ ?_ ?_ ?_); (focus kernel_rfl); (focus kernel_rfl); (focus (decide +kernel)))
              | ((with_reducible refine aw_drawnF T_ok ?_ ?_ ?_ ?_); (focus kernel_rfl); (focus kernel_rfl); (focus (decide +kernel)))
              | ((with_reducible refine callK_intro (h1) (by with_unfolding_all rfl) ?_ ?_); (focus kernel_rfl))
              | ((with_reducible refine callI_spec (h1) (by with_unfolding_all rfl) ?_ ?_ ?_); (focus kernel_rfl); (focus kernel_rfl))
              | ((with_reducible apply yieldI_in 0 0 (hL1 := hLp) (hL2 := hLa) (hL3 := hLb) (hsz := hLt.1)); (focus rfl); (focus rfl); (focus rfl); (focus kernel_rfl); (focus (dsimp only [Base.inn, Base.inr])); (focus exact (fun t ht => (hLt.2 t ht).trans (by rw [Nat.zero_add]; rfl))); (focus kernel_rfl); intro _)
              | (with_reducible refine aw_label ?_)
              | ((with_reducible refine aw_rfM ?_ ?_); (focus kernel_rfl))
              | (with_reducible refine aw_skip ?_)
              | (with_reducible refine aw_exit ?_)
              | ((with_reducible refine aw_condM ?_ ?_); (focus kernel_rfl))
              | (with_reducible refine aw_ret ?_)
            ); simp only [↓avP, avQ, if_true, if_false, forall_const, beq_self_eq_true, eq_self, ne_eq, implies_true, reduceIte, Nat.reduceEqDiff, Nat.reduceAdd, Nat.reduceSub, Int.reduceToNat, Nat.reduceLeDiff, Nat.reduceLT, reduceCtorEq, Int.reduceEq, retQ, retL, resV, RetV, RetOk, SubL, intD_B, u64D_B, lotD_B, flowD_B, snocI, snocL, snocIsW, ty_3, ty_86, ty_73, ty_27, ty_4, ty_24, ty_40, ty_22, ty_31, hd2]; try simp (disch := omega) only [av_w, av_t1, av_tp, Int.toNat_natCast]))
        refine ⟨k + 1, by omega, by dsimp only; omega, wk_of [(0, some 0), (1, some 1), (6, some 6), (7, some 7), (8, some 10)] rfl rfl ?_ ?_⟩
        · simp only [wkT, wkB, wkB1, subV, subVs, subD, subB, lkN_n, lkN_c, lkT_n, lkT_c, lkB_n, lkB_c, if_true, if_false, reduceIte, Nat.reduceEqDiff, true_and, and_true, and_self, inT, ofA]
          (repeat' (first | exact trivial | rfl | exact rfl | exact subVs_d _ _ | exact subVs_dm _ _ | exact subD_refl _ | refine And.intro ?_ ?_))
        · simp only [wkT, wkB, wkB1, subV, subVs, subD, subB, lkN_n, lkN_c, lkT_n, lkT_c, lkB_n, lkB_c, if_true, if_false, reduceIte, Nat.reduceEqDiff, true_and, and_true, and_self, inT, ofA]
          rw [hfs]
          (repeat' (first | ((simp; done)) | exact trivial | rfl | exact rfl | exact subVs_d _ _ | exact subVs_dm _ _ | exact subD_refl _ | refine And.intro ?_ ?_))
      | false =>
        rw [hb] at h1
        rw [if_neg (by rw [hb]; simp)] at hfs
        repeat' (first
          | (with_reducible refine aw_seq ?_)
          | ((with_reducible refine twoG_intro ?_ ?_) <;> intro hTw <;> first | (exact Bool.noConfusion hTw) | ((try simp only [hTw, Bool.not_true, Bool.not_false, Bool.true_and, Bool.false_and, Bool.and_true, Bool.and_false, Bool.true_or, Bool.false_or, Bool.or_true, Bool.or_false]); (first | (guard_hyp hTw : true = true; clear hTw) | (guard_hyp hTw : false = false; clear hTw) | (revert hTw; intro _))))
          | ((with_reducible refine two_intro ?_ ?_) <;> intro hTw <;> first | (exact Bool.noConfusion hTw) | ((first | (guard_hyp hTw : true = true; clear hTw) | (guard_hyp hTw : false = false; clear hTw) | (revert hTw; intro _))))
          | ((with_reducible refine And.intro ?_ ?_); (focus (first | omega | rfl | decide | grind)))
          | (with_reducible refine aw_block ?_)
          | (with_reducible refine aw_scope ?_)
          | ((first
              | ((with_reducible refine aw_regionA T_ok ?_ ?_); (focus kernel_rfl))
              | ((with_reducible refine aw_drawnA T_ok ?_ ?_ ?_ ?_); (focus kernel_rfl); (focus kernel_rfl); (focus (decide +kernel)))
              | ((with_reducible refine aw_drawnF T_ok ?_ ?_ ?_ ?_); (focus kernel_rfl); (focus kernel_rfl); (focus (decide +kernel)))
              | ((with_reducible refine callK_intro (h1) (by with_unfolding_all rfl) ?_ ?_); (focus kernel_rfl))
              | ((with_reducible refine callI_spec (h1) (by with_unfolding_all rfl) ?_ ?_ ?_); (focus kernel_rfl); (focus kernel_rfl))
              | ((with_reducible refine callK_skip (.r1 (aB true)) (by with_unfolding_all rfl) ?_ ?_); (focus kernel_rfl))
              | ((with_reducible apply yieldI_in 0 0 (hL1 := hLp) (hL2 := hLa) (hL3 := hLb) (hsz := hLt.1)); (focus rfl); (focus rfl); (focus rfl); (focus kernel_rfl); (focus (dsimp only [Base.inn, Base.inr])); (focus exact (fun t ht => (hLt.2 t ht).trans (by rw [Nat.zero_add]; rfl))); (focus kernel_rfl); intro _)
              | (with_reducible refine aw_label ?_)
              | ((with_reducible refine aw_rfM ?_ ?_); (focus kernel_rfl))
              | (with_reducible refine aw_skip ?_)
              | (with_reducible refine aw_exit ?_)
              | ((with_reducible refine aw_condM ?_ ?_); (focus kernel_rfl))
              | (with_reducible refine aw_ret ?_)
            ); simp only [↓avP, avQ, if_true, if_false, forall_const, beq_self_eq_true, eq_self, ne_eq, implies_true, reduceIte, Nat.reduceEqDiff, Nat.reduceAdd, Nat.reduceSub, Int.reduceToNat, Nat.reduceLeDiff, Nat.reduceLT, reduceCtorEq, Int.reduceEq, retQ, retL, resV, RetV, RetOk, SubL, intD_B, u64D_B, lotD_B, flowD_B, snocI, snocL, snocIsW, ty_3, ty_86, ty_73, ty_27, ty_4, ty_24, ty_40, ty_22, ty_31, hd2]; try simp (disch := omega) only [av_w, av_t1, av_tp, Int.toNat_natCast]))
        refine ⟨k + 1, by omega, by dsimp only; omega, wk_of [(0, some 0), (1, some 1), (6, some 6), (7, some 7), (8, some 8)] rfl rfl ?_ ?_⟩
        · simp only [wkT, wkB, wkB1, subV, subVs, subD, subB, lkN_n, lkN_c, lkT_n, lkT_c, lkB_n, lkB_c, if_true, if_false, reduceIte, Nat.reduceEqDiff, true_and, and_true, and_self, inT, ofA]
          (repeat' (first | exact trivial | rfl | exact rfl | exact subVs_d _ _ | exact subVs_dm _ _ | exact subD_refl _ | refine And.intro ?_ ?_))
        · simp only [wkT, wkB, wkB1, subV, subVs, subD, subB, lkN_n, lkN_c, lkT_n, lkT_c, lkB_n, lkB_c, if_true, if_false, reduceIte, Nat.reduceEqDiff, true_and, and_true, and_self, inT, ofA]
          rw [hfs]
          (repeat' (first | exact trivial | rfl | exact rfl | exact subVs_d _ _ | exact subVs_dm _ _ | exact subD_refl _ | refine And.intro ?_ ?_))
    obtain rfl : k = E.length := by omega
    have hd2 := ged (Nat.le_refl E.length)
    rw [List.take_length, ← hend] at hX
    repeat' (first
      | (with_reducible refine aw_seq ?_)
      | ((with_reducible refine twoG_intro ?_ ?_) <;> intro hTw <;> first | (exact Bool.noConfusion hTw) | ((try simp only [hTw, Bool.not_true, Bool.not_false, Bool.true_and, Bool.false_and, Bool.and_true, Bool.and_false, Bool.true_or, Bool.false_or, Bool.or_true, Bool.or_false]); (first | (guard_hyp hTw : true = true; clear hTw) | (guard_hyp hTw : false = false; clear hTw) | (revert hTw; intro _))))
      | ((with_reducible refine two_intro ?_ ?_) <;> intro hTw <;> first | (exact Bool.noConfusion hTw) | ((first | (guard_hyp hTw : true = true; clear hTw) | (guard_hyp hTw : false = false; clear hTw) | (revert hTw; intro _))))
      | ((with_reducible refine And.intro ?_ ?_); (focus (first | omega | rfl | decide | grind)))
      | (with_reducible refine aw_block ?_)
      | (with_reducible refine aw_scope ?_)
      | ((first
          | ((with_reducible refine aw_regionA T_ok ?_ ?_); (focus kernel_rfl))
          | ((with_reducible refine aw_drawnA T_ok ?_ ?_ ?_ ?_); (focus kernel_rfl); (focus kernel_rfl); (focus (decide +kernel)))
          | ((with_reducible refine aw_drawnF T_ok ?_ ?_ ?_ ?_); (focus kernel_rfl); (focus kernel_rfl); (focus (decide +kernel)))
          | (with_reducible refine aw_label ?_)
          | ((with_reducible refine aw_rfM ?_ ?_); (focus kernel_rfl))
          | (with_reducible refine aw_skip ?_)
          | (with_reducible refine aw_exit ?_)
          | ((with_reducible refine aw_condM ?_ ?_); (focus kernel_rfl))
          | (with_reducible refine aw_ret ?_)
        ); simp only [↓avP, avQ, if_true, if_false, forall_const, beq_self_eq_true, eq_self, ne_eq, implies_true, reduceIte, Nat.reduceEqDiff, Nat.reduceAdd, Nat.reduceSub, Int.reduceToNat, Nat.reduceLeDiff, Nat.reduceLT, reduceCtorEq, Int.reduceEq, retQ, retL, resV, RetV, RetOk, SubL, intD_B, u64D_B, lotD_B, flowD_B, snocI, snocL, snocIsW, ty_3, ty_86, ty_73, ty_27, ty_4, ty_24, ty_40, ty_22, ty_31, hd2]; try simp (disch := omega) only [av_w, av_t1, av_tp, Int.toNat_natCast]))
    refine ⟨s + 1, by omega, by dsimp only; omega, wk_of [(0, some 0), (1, some 10)] rfl rfl ?_ ?_⟩
    · simp only [wkT, wkB, wkB1, subV, subVs, subD, subB, lkN_n, lkN_c, lkT_n, lkT_c, lkB_n, lkB_c, if_true, if_false, reduceIte, Nat.reduceEqDiff, true_and, and_true, and_self, inT, ofA]
      rw [hms, ← hX]
      (repeat' (first | exact trivial | rfl | exact rfl | exact subVs_d _ _ | exact subVs_dm _ _ | exact subD_refl _ | refine And.intro ?_ ?_))
    · simp only [wkT, wkB, wkB1, subV, subVs, subD, subB, lkN_n, lkN_c, lkT_n, lkT_c, lkB_n, lkB_c, if_true, if_false, reduceIte, Nat.reduceEqDiff, true_and, and_true, and_self, inT, ofA]
      rw [hms, ← hX]
      (repeat' (first | ((simp; done)) | exact trivial | rfl | exact rfl | exact subVs_d _ _ | exact subVs_dm _ _ | exact subD_refl _ | refine And.intro ?_ ?_))
  obtain rfl : s = N := by omega
  have hd2 : decide ((s : Int) < f.senders) = false := decide_eq_false (by omega)
  repeat' (first
    | (with_reducible refine aw_seq ?_)
    | ((with_reducible refine twoG_intro ?_ ?_) <;> intro hTw <;> first | (exact Bool.noConfusion hTw) | ((try simp only [hTw, Bool.not_true, Bool.not_false, Bool.true_and, Bool.false_and, Bool.and_true, Bool.and_false, Bool.true_or, Bool.false_or, Bool.or_true, Bool.or_false]); (first | (guard_hyp hTw : true = true; clear hTw) | (guard_hyp hTw : false = false; clear hTw) | (revert hTw; intro _))))
    | ((with_reducible refine two_intro ?_ ?_) <;> intro hTw <;> first | (exact Bool.noConfusion hTw) | ((first | (guard_hyp hTw : true = true; clear hTw) | (guard_hyp hTw : false = false; clear hTw) | (revert hTw; intro _))))
    | ((with_reducible refine And.intro ?_ ?_); (focus (first | omega | rfl | decide | grind)))
    | (with_reducible refine aw_block ?_)
    | (with_reducible refine aw_scope ?_)
    | ((first
        | ((with_reducible refine aw_regionA T_ok ?_ ?_); (focus kernel_rfl))
        | ((with_reducible refine aw_drawnA T_ok ?_ ?_ ?_ ?_); (focus kernel_rfl); (focus kernel_rfl); (focus (decide +kernel)))
        | ((with_reducible refine aw_drawnF T_ok ?_ ?_ ?_ ?_); (focus kernel_rfl); (focus kernel_rfl); (focus (decide +kernel)))
        | (with_reducible refine aw_label ?_)
        | ((with_reducible refine aw_rfM ?_ ?_); (focus kernel_rfl))
        | (with_reducible refine aw_skip ?_)
        | (with_reducible refine aw_exit ?_)
        | ((with_reducible refine aw_condM ?_ ?_); (focus kernel_rfl))
        | (with_reducible refine aw_ret ?_)
      ); simp only [↓avP, avQ, if_true, if_false, forall_const, beq_self_eq_true, eq_self, ne_eq, implies_true, reduceIte, Nat.reduceEqDiff, Nat.reduceAdd, Nat.reduceSub, Int.reduceToNat, Nat.reduceLeDiff, Nat.reduceLT, reduceCtorEq, Int.reduceEq, retQ, retL, resV, RetV, RetOk, SubL, intD_B, u64D_B, lotD_B, flowD_B, snocI, snocL, snocIsW, ty_3, ty_86, ty_73, ty_27, ty_4, ty_24, ty_40, ty_22, ty_31, hd2]; try simp (disch := omega) only [av_w, av_t1, av_tp, Int.toNat_natCast]))
  rw [hR]
  exact ⟨Sub.refl _, Sub.refl _⟩
end Go.Proofs.Ytncihbmehbiekaa


namespace Go.Proofs.Ytncihbmehbiekaa
set_option linter.unusedSimpArgs false
set_option linter.unusedVariables false
open Go.RowKit
/-- a map of rows of the call's own: key, name, row -/
abbrev TM := List (Int × Nat × List Int)
def tV (M : TM) : List (List Int × V) := M.map fun p => ([p.1], V.ow p.2.1 1 (intD 0) (p.2.2.map intD))
def tB (M : TM) : List (Nat × Blk) := M.map fun p => (p.2.1, Blk.tok 3 1 p.2.2.length)
def fnd (x : Int) : TM → Option (Nat × List Int)
  | [] => none
  | (y, q) :: M => if x = y then some q else fnd x M
def updR (x : Int) (n : Nat) (l : List Int) : TM → TM
  | [] => [(x, n, l)]
  | (y, q) :: M => if x = y then (x, n, l) :: M else (y, q) :: updR x n l M
def rowOf (M : TM) (x : Int) : List Int := ((fnd x M).map (·.2)).getD []
def nms (M : TM) : List Nat := M.map (·.2.1)
theorem lkM_tV (x : Int) : ∀ M : TM, lkM [x] (tV M) = (fnd x M).map fun q => V.ow q.1 1 (intD 0) (q.2.map intD)
  | [] => rfl
  | (y, q) :: M => by
    have ih := lkM_tV x M
    unfold tV at ih ⊢
    simp only [List.map_cons, lkM, fnd, List.cons.injEq, and_true]
    by_cases h : x = y
    · rw [if_pos h, if_pos h]; rfl
    · rw [if_neg h, if_neg h]; exact ih
theorem upM_tV (x : Int) (n : Nat) (l : List Int) : ∀ M : TM, upM [x] (V.ow n 1 (intD 0) (l.map intD)) (tV M) = tV (updR x n l M)
  | [] => rfl
  | (y, q) :: M => by
    have ih := upM_tV x n l M
    unfold tV at ih ⊢
    simp only [List.map_cons, upM, updR, List.cons.injEq, and_true]
    by_cases h : x = y
    · rw [if_pos h, if_pos h]; rfl
    · rw [if_neg h, if_neg h, ih]; rfl
theorem upM_tV1 (x i : Int) (n : Nat) (M : TM) : upM [x] (V.ow n 1 (zD (Value.int .i64 0)) [[D.c (Value.int .i64 i)]]) (tV M) = tV (updR x n [i] M) := upM_tV x n [i] M
theorem fnd_upd (x : Int) (n : Nat) (l : List Int) (z : Int) : ∀ M : TM, fnd z (updR x n l M) = if z = x then some (n, l) else fnd z M
  | [] => rfl
  | (y, q) :: M => by
    have ih := fnd_upd x n l z M
    simp only [updR]
    by_cases h : x = y
    · rw [if_pos h]
      simp only [fnd]
      by_cases hz : z = x
      · rw [if_pos hz, if_pos hz]
      · rw [if_neg hz, if_neg hz, if_neg (fun e => hz (e.trans h.symm))]
    · rw [if_neg h]
      simp only [fnd]
      by_cases hz : z = y
      · rw [if_pos hz, if_pos hz, if_neg (fun e => h (e.symm.trans hz))]
      · rw [if_neg hz, if_neg hz, ih]
theorem rowOf_upd (M : TM) (x : Int) (n : Nat) (l : List Int) (z : Int) : rowOf (updR x n l M) z = if z = x then l else rowOf M z := by
  unfold rowOf
  rw [fnd_upd]
  split <;> rfl
theorem fnd_mem {x : Int} {n : Nat} {l : List Int} : ∀ {M : TM}, fnd x M = some (n, l) → (x, n, l) ∈ M
  | [], h => by cases h
  | (y, q) :: M, h => by
    simp only [fnd] at h
    split at h
    · rename_i e; cases h; subst e; simp
    · exact List.mem_cons_of_mem _ (fnd_mem h)
theorem lkB_tB {n : Nat} {x : Int} {l : List Int} : ∀ {M : TM}, (nms M).Nodup → (x, n, l) ∈ M → lkB (tB M) n = some (.tok 3 1 l.length)
  | [], _, h => by cases h
  | (y, m, k) :: M, hn, h => by
    simp only [nms, List.map_cons, List.nodup_cons] at hn
    simp only [tB, List.map_cons, lkB]
    rcases List.mem_cons.1 h with e | h
    · cases e; rw [if_pos rfl]
    · have : n ∈ M.map (·.2.1) := List.mem_map.2 ⟨_, h, rfl⟩
      rw [if_neg (fun e : n = m => hn.1 (e ▸ this))]
      exact lkB_tB hn.2 h
theorem mem_upd {x : Int} {n : Nat} {l : List Int} : ∀ {M : TM} {p : Int × Nat × List Int}, p ∈ updR x n l M → p = (x, n, l) ∨ (p ∈ M ∧ ∀ q, fnd x M = some q → (nms M).Nodup → p.2.1 ≠ q.1)
  | [], p, h => by simp [updR] at h; exact .inl h
  | (y, q) :: M, p, h => by
    simp only [updR] at h
    by_cases he : x = y
    · rw [if_pos he] at h
      rcases List.mem_cons.1 h with e | h
      · exact .inl e
      · refine .inr ⟨by simp [h], fun q' hq' hn => ?_⟩
        simp only [fnd, if_pos he, Option.some.injEq] at hq'
        simp only [nms, List.map_cons, List.nodup_cons] at hn
        subst hq'
        exact fun e => hn.1 (e ▸ List.mem_map.2 ⟨_, h, rfl⟩)
    · rw [if_neg he] at h
      rcases List.mem_cons.1 h with e | h
      · subst e
        refine .inr ⟨by simp, fun q' hq' hn => ?_⟩
        simp only [fnd, if_neg he] at hq'
        simp only [nms, List.map_cons, List.nodup_cons] at hn
        exact fun e => hn.1 (by show q.1 ∈ _; rw [show q.1 = q'.1 from e]; exact List.mem_map.2 ⟨_, fnd_mem (n := q'.1) (l := q'.2) hq', rfl⟩)
      · rcases mem_upd h with e | ⟨h1, h2⟩
        · exact .inl e
        · refine .inr ⟨by simp [h1], fun q' hq' hn => ?_⟩
          simp only [fnd, if_neg he] at hq'
          simp only [nms, List.map_cons, List.nodup_cons] at hn
          exact h2 q' hq' hn.2
theorem nms_upd {x : Int} {n : Nat} {l : List Int} : ∀ {M : TM}, (nms M).Nodup → n ∉ nms M → (nms (updR x n l M)).Nodup
  | [], _, _ => by simp [updR, nms]
  | (y, q) :: M, hn, hx => by
    simp only [nms, List.map_cons, List.nodup_cons, List.mem_cons, not_or] at hn hx
    simp only [updR]
    by_cases he : x = y
    · rw [if_pos he]
      simp only [nms, List.map_cons, List.nodup_cons]
      exact ⟨hx.2, hn.2⟩
    · rw [if_neg he]
      simp only [nms, List.map_cons, List.nodup_cons]
      refine ⟨fun h => ?_, nms_upd hn.2 hx.2⟩
      obtain ⟨p, hp, e⟩ := List.mem_map.1 h
      rcases mem_upd hp with e2 | ⟨h1, _⟩
      · rw [e2] at e; exact hx.1 e
      · exact hn.1 (e ▸ List.mem_map.2 ⟨_, h1, rfl⟩)
/-- names that stay -/
def idR (ns : List Nat) : Ren := ns.map fun n => (n, some n)
theorem lkN_idR {n : Nat} : ∀ {ns : List Nat}, n ∈ ns → lkN (idR ns) n = some (some n)
  | [], h => by cases h
  | m :: ns, h => by
    simp only [idR, List.map_cons, lkN]
    by_cases he : n = m
    · rw [if_pos he, he]
    · rw [if_neg he]
      rcases List.mem_cons.1 h with e | h
      · exact (he e).elim
      · exact lkN_idR h
theorem lkN0 (ns : List Nat) : lkN (idR (0 :: ns)) 0 = some (some 0) := rfl
theorem injB_idR : ∀ {ns : List Nat}, ns.Nodup → injB (idR ns) = true
  | [], _ => rfl
  | m :: ns, h => by
    rw [List.nodup_cons] at h
    simp only [idR, List.map_cons, injB, Bool.and_eq_true]
    refine ⟨List.all_eq_true.2 fun p hp => ?_, injB_idR h.2⟩
    obtain ⟨k, hk, rfl⟩ := List.mem_map.1 hp
    have : m ≠ k := fun e => h.1 (e ▸ hk)
    simp [this]
theorem wkB_all {ρ : Ren} {st : List (Nat × Blk)} : ∀ {l : List (Nat × Blk)}, (∀ p ∈ l, wkB1 ρ st p.2 (lkN ρ p.1)) → wkB ρ st l
  | [], _ => trivial
  | (n, b) :: l, h => ⟨h (n, b) (by simp), wkB_all fun p hp => h p (by simp [hp])⟩
theorem subM_tV {ρ : Ren} : ∀ {M : TM}, (∀ p ∈ M, lkN ρ p.2.1 = some (some p.2.1)) → subM ρ (tV M) (tV M)
  | [], _ => trivial
  | p :: M, h => ⟨⟨rfl, by simp only [subV]; exact ⟨h p (by simp), trivial, trivial⟩⟩, subM_tV fun q hq => h q (by simp [hq])⟩
/-- the state of the map: its rows' names -/
structure TOk (M : TM) (nx : Nat) : Prop where
  nd : (nms M).Nodup
  lo : ∀ n ∈ nms M, 0 < n ∧ n < nx
theorem TOk.upd {M : TM} {nx : Nat} (h : TOk M nx) (x : Int) (l : List Int) {n : Nat} (hn : nx ≤ n) (h0 : 0 < n) : TOk (updR x n l M) (n + 1) := by
  refine ⟨nms_upd h.nd (fun hm => by have := h.lo n hm; omega), fun k hk => ?_⟩
  obtain ⟨p, hp, rfl⟩ := List.mem_map.1 hk
  rcases mem_upd hp with e | ⟨h1, _⟩
  · rw [e]; exact ⟨h0, by show n < n + 1; omega⟩
  · have := h.lo _ (List.mem_map.2 ⟨_, h1, rfl⟩); omega
/-- a map with its rows, seen again behind an update -/
theorem wkB_tm {M : TM} {nx : Nat} {st : List (Nat × Blk)} {x : Int} {n : Nat} {l : List Int} (hM : TOk M nx) (hn : nx ≤ n) (h0 : 0 < n)
    (hmap : lkB st 0 = some (.map .i 3 (.slice none 0 0) (.d (.c (.slice none 0 0))) (tV (updR x n l M)))) (hnew : lkB st n = some (.tok 3 1 l.length)) (hold : ∀ p ∈ M, (∀ q, fnd x M = some q → p.2.1 ≠ q.1) → lkB st p.2.1 = some (.tok 3 1 p.2.2.length)) :
    wkB (idR (0 :: nms (updR x n l M))) st ((0, .map .i 3 (.slice none 0 0) (.d (.c (.slice none 0 0))) (tV (updR x n l M))) :: tB (updR x n l M)) := by
  have hin : ∀ p ∈ updR x n l M, lkN (idR (0 :: nms (updR x n l M))) p.2.1 = some (some p.2.1) := fun p hp => lkN_idR (by simp only [List.mem_cons]; exact .inr (List.mem_map.2 ⟨p, hp, rfl⟩))
  refine wkB_all fun p hp => ?_
  rcases List.mem_cons.1 hp with rfl | hp
  · rw [lkN_idR (by simp)]
    simp only [wkB1, hmap, subB]
    exact ⟨⟨trivial, trivial, trivial⟩, by simp only [subV]; exact subD_refl _, subM_tV hin⟩
  · obtain ⟨q, hq, rfl⟩ := List.mem_map.1 hp
    rw [hin q hq]
    rcases mem_upd hq with e | ⟨h1, h2⟩
    · subst e
      simp only [wkB1, hnew, subB]
      exact ⟨trivial, trivial, trivial⟩
    · simp only [wkB1, hold q h1 (fun r hr => h2 r hr hM.nd), subB]
      exact ⟨trivial, trivial, trivial⟩
theorem TOk.cons {M : TM} {nx : Nat} (h : TOk M nx) : (0 :: nms M).Nodup := List.nodup_cons.2 ⟨fun hm => by have := h.lo 0 hm; omega, h.nd⟩
theorem TOk.lt {M : TM} {nx : Nat} (h : TOk M nx) (h1 : 1 ≤ nx) : ((idR (0 :: nms M)).all fun p => decide (p.1 < nx)) = true := List.all_eq_true.2 fun p hp => by
  obtain ⟨n, hn, rfl⟩ := List.mem_map.1 hp
  rcases List.mem_cons.1 hn with rfl | hn
  · exact decide_eq_true (by show 0 < nx; omega)
  · exact decide_eq_true (h.lo n hn).2
/-- the same map, other slots -/
theorem wk_tm {P : Program} {B : Base} {tm tm' : List (Nat × V)} {M : TM} {nx : Nat} (hM : TOk M nx) (h1 : 1 ≤ nx) (hT : wkT (idR (0 :: nms M)) tm tm') :
    Wk P B ⟨tm, (0, .map .i 3 (.slice none 0 0) (.d (.c (.slice none 0 0))) (tV M)) :: tB M, nx⟩ ⟨tm', (0, .map .i 3 (.slice none 0 0) (.d (.c (.slice none 0 0))) (tV M)) :: tB M, nx⟩ := by
  refine wk_of (idR (0 :: nms M)) (injB_idR hM.cons) (hM.lt h1) hT ?_
  have hin : ∀ p ∈ M, lkN (idR (0 :: nms M)) p.2.1 = some (some p.2.1) := fun p hp => lkN_idR (by simp only [List.mem_cons]; exact .inr (List.mem_map.2 ⟨p, hp, rfl⟩))
  refine wkB_all fun p hp => ?_
  rcases List.mem_cons.1 hp with rfl | hp
  · rw [lkN_idR (by simp)]
    simp only [wkB1, lkB_c, if_true, subB]
    exact ⟨⟨trivial, trivial, trivial⟩, by simp only [subV]; exact subD_refl _, subM_tV hin⟩
  · obtain ⟨q, hq, rfl⟩ := List.mem_map.1 hp
    rw [hin q hq]
    have hq0 := hM.lo _ (List.mem_map.2 ⟨q, hq, rfl⟩)
    simp only [wkB1, lkB_c]
    rw [if_neg (by omega), lkB_tB hM.nd (show (q.1, q.2.1, q.2.2) ∈ M from hq)]
    simp only [subB]
    exact ⟨trivial, trivial, trivial⟩
end Go.Proofs.Ytncihbmehbiekaa

