import Derived.Test.YtlnkmaejiceloaaHL11
import Derived.Test.YtlnkmaejiceloaaHL9
import Derived.Test.YtlnkmaejiceloaaHL7
namespace Go.Proofs.Ytlnkmaejiceloaa
set_option linter.unusedSimpArgs false
set_option linter.unusedVariables false
open Go.RowKit
set_option maxRecDepth 100000
set_option maxHeartbeats 4000000
theorem fends_spec (f : FlowP) (hf : OkF f) : Spec Try.prog 61 [.agg (flowD f)] (.rt [aIs (endsR f), aI (checkF f)]) := by
  refine spec_of T_ok Try.func61 (by dsimp only [Try.f61]) rfl rfl (by simp) fun w F => ?_
  have hC := fcheck_spec f hf
  by_cases hc : checkF f = 0
  rotate_left
  · have hd : (checkF f != 0) = true := by simpa using hc
    repeat' (first | (with_reducible refine aw_seq ?_) | ((with_reducible refine twoG_intro ?_ ?_) <;> intro h <;> first | contradiction | ((try simp only [h, avT]); (first | (guard_hyp h : true = true; clear h) | (guard_hyp h : false = false; clear h) | (revert h; intro _)))) | ((with_reducible refine two_intro ?_ ?_) <;> intro h <;> first | contradiction | ((first | (guard_hyp h : true = true; clear h) | (guard_hyp h : false = false; clear h) | (revert h; intro _)))) | ((with_reducible refine And.intro ?_ ?_); (focus (first | exact keyOk_int_ | omega | rfl | decide | grind))) | (with_reducible refine aw_block ?_) | (with_reducible refine aw_scope ?_) | ((first | ((with_reducible refine aw_regionA T_ok ?_ ?_); kernel_rfl) | ((with_reducible refine aw_drawnA T_ok ?_ ?_ ?_ ?_); kernel_rfl; kernel_rfl; (focus (decide +kernel))) | ((with_reducible refine aw_drawnF T_ok ?_ ?_ ?_ ?_); kernel_rfl; kernel_rfl; (focus (decide +kernel))) | ((with_reducible refine callK_intro (hC) (by with_unfolding_all rfl) ?_ ?_); kernel_rfl) | ((with_reducible refine callI_spec (hC) (by with_unfolding_all rfl) ?_ ?_ ?_); kernel_rfl; kernel_rfl) | (with_reducible refine aw_label ?_) | ((with_reducible refine aw_rfM ?_ ?_); kernel_rfl) | (with_reducible refine aw_skip ?_) | (with_reducible refine aw_exit ?_) | ((with_reducible refine aw_condM ?_ ?_); kernel_rfl) | (with_reducible refine aw_ret ?_)); simp only [↓avP, avQ, avR, forall_const, implies_true, reduceIte, Nat.reduceEqDiff, Nat.reduceAdd, Nat.reduceSub, Int.reduceToNat, Nat.reduceLeDiff, Nat.reduceLT, reduceCtorEq, Int.reduceEq, avS, intD_B, lotD_B, flowD_B, snocI, snocL, ty_3, ty_26, ty_4, ty_24, ty_50, ty_22, ty_83, lkM_bool, upM_bool, boolV, boolV_getD, hd]; try simp (disch := omega) only [av_w, av_t1, av_tp, Int.toNat_natCast]))
    rw [endsR, if_neg hc]
    exact ⟨Sub.nil _ _, Sub.refl _⟩
  rw [hc] at hC ⊢
  obtain ⟨z1, z2, z3, z4, z5⟩ := checkF_zero hc
  have hs := checkF_small hc
  have hfl := hf.l
  obtain ⟨N, hN⟩ : ∃ N : Nat, befF f f.lots.length = N := ⟨(befF f f.lots.length).toNat, by have := (befF_mono (Nat.le_refl f.lots.length)).1; omega⟩
  have hNe : endsF f = endAt f N := by rw [endsF, hN]; rfl
  repeat' (first | (with_reducible refine aw_seq ?_) | ((with_reducible refine twoG_intro ?_ ?_) <;> intro h <;> first | contradiction | ((try simp only [h, avT]); (first | (guard_hyp h : true = true; clear h) | (guard_hyp h : false = false; clear h) | (revert h; intro _)))) | ((with_reducible refine two_intro ?_ ?_) <;> intro h <;> first | contradiction | ((first | (guard_hyp h : true = true; clear h) | (guard_hyp h : false = false; clear h) | (revert h; intro _)))) | ((with_reducible refine And.intro ?_ ?_); (focus (first | exact keyOk_int_ | omega | rfl | decide | grind))) | (with_reducible refine aw_block ?_) | (with_reducible refine aw_scope ?_) | ((first | ((with_reducible refine aw_regionA T_ok ?_ ?_); kernel_rfl) | ((with_reducible refine aw_drawnA T_ok ?_ ?_ ?_ ?_); kernel_rfl; kernel_rfl; (focus (decide +kernel))) | ((with_reducible refine aw_drawnF T_ok ?_ ?_ ?_ ?_); kernel_rfl; kernel_rfl; (focus (decide +kernel))) | ((with_reducible refine callK_intro (hC) (by with_unfolding_all rfl) ?_ ?_); kernel_rfl) | ((with_reducible refine callI_spec (hC) (by with_unfolding_all rfl) ?_ ?_ ?_); kernel_rfl; kernel_rfl) | ((with_reducible apply callI_in T_ok Try.func77); (focus (dsimp only [Try.f77])); (focus rfl); (focus rfl); kernel_rfl; (focus exact of_decide_eq_true (by kernel_rfl)); (focus (first | exact hdB | kernel_rfl)); kernel_rfl; intro _) | ((with_reducible apply rfI_in Try.func86); (focus (dsimp only [Try.f86])); (focus (dsimp only [Base.inn, Base.inr])); (focus rfl); (focus rfl); kernel_rfl; (focus exact of_decide_eq_true (by kernel_rfl)); kernel_rfl; intro aL L hLp hLa hLb hLt) | (with_reducible refine aw_label ?_) | ((with_reducible refine aw_rfM ?_ ?_); kernel_rfl) | (with_reducible refine aw_skip ?_) | (with_reducible refine aw_exit ?_) | ((with_reducible refine aw_condM ?_ ?_); kernel_rfl) | (with_reducible refine aw_ret ?_)); simp only [↓avP, avQ, avR, forall_const, implies_true, reduceIte, Nat.reduceEqDiff, Nat.reduceAdd, Nat.reduceSub, Int.reduceToNat, Nat.reduceLeDiff, Nat.reduceLT, reduceCtorEq, Int.reduceEq, avS, intD_B, lotD_B, flowD_B, snocI, snocL, ty_3, ty_26, ty_4, ty_24, ty_50, ty_22, ty_83, lkM_bool, upM_bool, boolV, boolV_getD]; try simp (disch := omega) only [av_w, av_t1, av_tp, Int.toNat_natCast]))
  refine aw_loopI (fun k : Nat => ⟨[(0, .yl 3), (1, .ptr 2 0), (53, .ptr 1 0), (55, vI 0), (3, .mp 4), (4, vI (befF f k)), (14, .d (.sl 3 (lotD default) (f.lots.map lotD))), (15, vI f.lots.length), (16, vI k)],
    [(4, .map .i 3 (.bool false) (boolV false) (mpV boolV (metM (goneF f k)))), (3, .loop L .ready none), (2, .cells 24 (dV (flowD f))), (1, .cells 26 [.d (.c (.slice none 0 0))]), (0, .cells 24 (dV (flowD f)))], 5⟩)
    (fun k => k ≤ f.lots.length) (fun k => f.lots.length - k) 0 (Nat.zero_le _) (wk_of [(0, some 0), (1, some 1), (2, some 2), (3, some 3), (4, some 4)] rfl rfl ?_ ?_) ?_
  · simp only [wkA, reduceIte, Nat.reduceEqDiff]
    (repeat' (first | ((exact congrArg (fun n => D.c (Value.int IntKind.i64 n)) (show f.senders = befF f 0 by simp [befF]))) | exact trivial | rfl | exact rfl | exact subVs_d _ _ | exact subVs_dm _ _ | exact subD_refl _ | refine And.intro ?_ ?_))
  · simp only [wkA, reduceIte, Nat.reduceEqDiff]
    (repeat' (first | exact trivial | rfl | exact rfl | exact subVs_d _ _ | exact subVs_dm _ _ | exact subD_refl _ | refine And.intro ?_ ?_))
  intro k hk
  have hbb := befF_mono (f := f) (k := k) (by omega)
  rcases Nat.lt_or_ge k f.lots.length with hlt | hge
  · have hd := ltd hlt
    have hb1 := befF_succ hlt
    have hg1 := goneF_succ hlt
    have hok := hf.at k
    have hbb2 := befF_mono (f := f) (k := k + 1) (by omega)
    obtain ⟨x, hx⟩ : ∃ x, x = f.lots.getD k default := ⟨_, rfl⟩
    rw [← hx] at hb1 hg1 hok
    have hli := hok.li
    repeat' (first | (with_reducible refine aw_seq ?_) | ((with_reducible refine twoG_intro ?_ ?_) <;> intro h <;> first | contradiction | ((try simp only [h, avT]); (first | (guard_hyp h : true = true; clear h) | (guard_hyp h : false = false; clear h) | (revert h; intro _)))) | ((with_reducible refine two_intro ?_ ?_) <;> intro h <;> first | contradiction | ((first | (guard_hyp h : true = true; clear h) | (guard_hyp h : false = false; clear h) | (revert h; intro _)))) | ((with_reducible refine And.intro ?_ ?_); (focus (first | exact keyOk_int_ | omega | rfl | decide | grind))) | (with_reducible refine aw_block ?_) | (with_reducible refine aw_scope ?_) | ((first | ((with_reducible refine aw_regionA T_ok ?_ ?_); kernel_rfl) | ((with_reducible refine aw_drawnA T_ok ?_ ?_ ?_ ?_); kernel_rfl; kernel_rfl; (focus (decide +kernel))) | ((with_reducible refine aw_drawnF T_ok ?_ ?_ ?_ ?_); kernel_rfl; kernel_rfl; (focus (decide +kernel))) | (with_reducible refine aw_label ?_) | ((with_reducible refine aw_rfM ?_ ?_); kernel_rfl) | (with_reducible refine aw_skip ?_) | (with_reducible refine aw_exit ?_) | ((with_reducible refine aw_condM ?_ ?_); kernel_rfl) | (with_reducible refine aw_ret ?_)); simp only [↓avP, avQ, avR, forall_const, implies_true, reduceIte, Nat.reduceEqDiff, Nat.reduceAdd, Nat.reduceSub, Int.reduceToNat, Nat.reduceLeDiff, Nat.reduceLT, reduceCtorEq, Int.reduceEq, avS, intD_B, lotD_B, flowD_B, snocI, snocL, ty_3, ty_26, ty_4, ty_24, ty_50, ty_22, ty_83, lkM_bool, upM_bool, boolV, boolV_getD, hd, ← hx]; try simp (disch := omega) only [av_w, av_t1, av_tp, Int.toNat_natCast]))
    refine aw_loopI (fun j : Nat => ⟨[(0, .yl 3), (1, .ptr 2 0), (53, .ptr 1 0), (55, vI 0), (3, .mp 4), (4, vI (befF f (k + 1))), (14, .d (.sl 3 (lotD default) (f.lots.map lotD))), (15, vI f.lots.length), (16, vI k), (26, .d (.sl 1 (intD 0) (x.inn.map intD))), (27, vI x.inn.length), (28, vI j)],
      [(4, .map .i 3 (.bool false) (boolV false) (mpV boolV (metM (goneF f k ++ x.inn.take j)))), (3, .loop L .ready none), (2, .cells 24 (dV (flowD f))), (1, .cells 26 [.d (.c (.slice none 0 0))]), (0, .cells 24 (dV (flowD f)))], 5⟩)
      (fun j => j ≤ x.inn.length) (fun j => x.inn.length - j) 0 (Nat.zero_le _) (wk_of [(0, some 0), (1, some 1), (2, some 2), (3, some 3), (4, some 4)] rfl rfl ?_ ?_) ?_
    · simp only [wkA, reduceIte, Nat.reduceEqDiff]
      rw [hb1]
      (repeat' (first | exact trivial | rfl | exact rfl | exact subVs_d _ _ | exact subVs_dm _ _ | exact subD_refl _ | refine And.intro ?_ ?_))
    · simp only [wkA, reduceIte, Nat.reduceEqDiff]
      rw [List.take_zero, List.append_nil]
      (repeat' (first | ((exact subM_mpV (subV_bool _) rfl)) | exact trivial | rfl | exact rfl | exact subVs_d _ _ | exact subVs_dm _ _ | exact subD_refl _ | refine And.intro ?_ ?_))
    intro j hj
    rcases Nat.lt_or_ge j x.inn.length with hjlt | hjge
    · have hd2 := ltd hjlt
      have hxb := hok.inn _ (getD_mem hjlt)
      repeat' (first | (with_reducible refine aw_seq ?_) | ((with_reducible refine twoG_intro ?_ ?_) <;> intro h <;> first | contradiction | ((try simp only [h, avT]); (first | (guard_hyp h : true = true; clear h) | (guard_hyp h : false = false; clear h) | (revert h; intro _)))) | ((with_reducible refine two_intro ?_ ?_) <;> intro h <;> first | contradiction | ((first | (guard_hyp h : true = true; clear h) | (guard_hyp h : false = false; clear h) | (revert h; intro _)))) | ((with_reducible refine And.intro ?_ ?_); (focus (first | exact keyOk_int_ | omega | rfl | decide | grind))) | (with_reducible refine aw_block ?_) | (with_reducible refine aw_scope ?_) | ((first | ((with_reducible refine aw_regionA T_ok ?_ ?_); kernel_rfl) | ((with_reducible refine aw_drawnA T_ok ?_ ?_ ?_ ?_); kernel_rfl; kernel_rfl; (focus (decide +kernel))) | ((with_reducible refine aw_drawnF T_ok ?_ ?_ ?_ ?_); kernel_rfl; kernel_rfl; (focus (decide +kernel))) | (with_reducible refine aw_label ?_) | ((with_reducible refine aw_rfM ?_ ?_); kernel_rfl) | (with_reducible refine aw_skip ?_) | (with_reducible refine aw_exit ?_) | ((with_reducible refine aw_condM ?_ ?_); kernel_rfl) | (with_reducible refine aw_ret ?_)); simp only [↓avP, avQ, avR, forall_const, implies_true, reduceIte, Nat.reduceEqDiff, Nat.reduceAdd, Nat.reduceSub, Int.reduceToNat, Nat.reduceLeDiff, Nat.reduceLT, reduceCtorEq, Int.reduceEq, avS, intD_B, lotD_B, flowD_B, snocI, snocL, ty_3, ty_26, ty_4, ty_24, ty_50, ty_22, ty_83, lkM_bool, upM_bool, boolV, boolV_getD, hd2]; try simp (disch := omega) only [av_w, av_t1, av_tp, Int.toNat_natCast]))
      have ht : goneF f k ++ x.inn.take (j + 1) = (goneF f k ++ x.inn.take j) ++ [x.inn.getD j 0] := by
        rw [List.take_succ_eq_append_getElem hjlt, List.append_assoc]
        congr 2
        simp [List.getD, hjlt]
      refine ⟨j + 1, by omega, by dsimp only; omega, wk_of [(0, some 0), (1, some 1), (2, some 2), (3, some 3), (4, some 4)] rfl rfl ?_ ?_⟩
      · simp only [wkA, reduceIte, Nat.reduceEqDiff]
        (repeat' (first | exact trivial | rfl | exact rfl | exact subVs_d _ _ | exact subVs_dm _ _ | exact subD_refl _ | refine And.intro ?_ ?_))
      · simp only [wkA, reduceIte, Nat.reduceEqDiff]
        rw [ht]
        (repeat' (first | ((exact subM_mpV (subV_bool _) (metM_succ _ _).symm)) | exact trivial | rfl | exact rfl | exact subVs_d _ _ | exact subVs_dm _ _ | exact subD_refl _ | refine And.intro ?_ ?_))
    · obtain rfl : j = x.inn.length := by omega
      have hd2 := ged (Nat.le_refl x.inn.length)
      repeat' (first | (with_reducible refine aw_seq ?_) | ((with_reducible refine twoG_intro ?_ ?_) <;> intro h <;> first | contradiction | ((try simp only [h, avT]); (first | (guard_hyp h : true = true; clear h) | (guard_hyp h : false = false; clear h) | (revert h; intro _)))) | ((with_reducible refine two_intro ?_ ?_) <;> intro h <;> first | contradiction | ((first | (guard_hyp h : true = true; clear h) | (guard_hyp h : false = false; clear h) | (revert h; intro _)))) | ((with_reducible refine And.intro ?_ ?_); (focus (first | exact keyOk_int_ | omega | rfl | decide | grind))) | (with_reducible refine aw_block ?_) | (with_reducible refine aw_scope ?_) | ((first | ((with_reducible refine aw_regionA T_ok ?_ ?_); kernel_rfl) | ((with_reducible refine aw_drawnA T_ok ?_ ?_ ?_ ?_); kernel_rfl; kernel_rfl; (focus (decide +kernel))) | ((with_reducible refine aw_drawnF T_ok ?_ ?_ ?_ ?_); kernel_rfl; kernel_rfl; (focus (decide +kernel))) | (with_reducible refine aw_label ?_) | ((with_reducible refine aw_rfM ?_ ?_); kernel_rfl) | (with_reducible refine aw_skip ?_) | (with_reducible refine aw_exit ?_) | ((with_reducible refine aw_condM ?_ ?_); kernel_rfl) | (with_reducible refine aw_ret ?_)); simp only [↓avP, avQ, avR, forall_const, implies_true, reduceIte, Nat.reduceEqDiff, Nat.reduceAdd, Nat.reduceSub, Int.reduceToNat, Nat.reduceLeDiff, Nat.reduceLT, reduceCtorEq, Int.reduceEq, avS, intD_B, lotD_B, flowD_B, snocI, snocL, ty_3, ty_26, ty_4, ty_24, ty_50, ty_22, ty_83, lkM_bool, upM_bool, boolV, boolV_getD, hd2]; try simp (disch := omega) only [av_w, av_t1, av_tp, Int.toNat_natCast]))
      refine ⟨k + 1, by omega, by dsimp only; omega, wk_of [(0, some 0), (1, some 1), (2, some 2), (3, some 3), (4, some 4)] rfl rfl ?_ ?_⟩
      · simp only [wkA, reduceIte, Nat.reduceEqDiff]
        (repeat' (first | exact trivial | rfl | exact rfl | exact subVs_d _ _ | exact subVs_dm _ _ | exact subD_refl _ | refine And.intro ?_ ?_))
      · simp only [wkA, reduceIte, Nat.reduceEqDiff]
        rw [hg1, List.take_length]
        (repeat' (first | ((exact subM_mpV (subV_bool _) rfl)) | exact trivial | rfl | exact rfl | exact subVs_d _ _ | exact subVs_dm _ _ | exact subD_refl _ | refine And.intro ?_ ?_))
  obtain rfl : k = f.lots.length := by omega
  have hd := ged (Nat.le_refl f.lots.length)
  rw [hN]
  repeat' (first | (with_reducible refine aw_seq ?_) | ((with_reducible refine twoG_intro ?_ ?_) <;> intro h <;> first | contradiction | ((try simp only [h, avT]); (first | (guard_hyp h : true = true; clear h) | (guard_hyp h : false = false; clear h) | (revert h; intro _)))) | ((with_reducible refine two_intro ?_ ?_) <;> intro h <;> first | contradiction | ((first | (guard_hyp h : true = true; clear h) | (guard_hyp h : false = false; clear h) | (revert h; intro _)))) | ((with_reducible refine And.intro ?_ ?_); (focus (first | exact keyOk_int_ | omega | rfl | decide | grind))) | (with_reducible refine aw_block ?_) | (with_reducible refine aw_scope ?_) | ((first | ((with_reducible refine aw_regionA T_ok ?_ ?_); kernel_rfl) | ((with_reducible refine aw_drawnA T_ok ?_ ?_ ?_ ?_); kernel_rfl; kernel_rfl; (focus (decide +kernel))) | ((with_reducible refine aw_drawnF T_ok ?_ ?_ ?_ ?_); kernel_rfl; kernel_rfl; (focus (decide +kernel))) | (with_reducible refine aw_label ?_) | ((with_reducible refine aw_rfM ?_ ?_); kernel_rfl) | (with_reducible refine aw_skip ?_) | (with_reducible refine aw_exit ?_) | ((with_reducible refine aw_condM ?_ ?_); kernel_rfl) | (with_reducible refine aw_ret ?_)); simp only [↓avP, avQ, avR, forall_const, implies_true, reduceIte, Nat.reduceEqDiff, Nat.reduceAdd, Nat.reduceSub, Int.reduceToNat, Nat.reduceLeDiff, Nat.reduceLT, reduceCtorEq, Int.reduceEq, avS, intD_B, lotD_B, flowD_B, snocI, snocL, ty_3, ty_26, ty_4, ty_24, ty_50, ty_22, ty_83, lkM_bool, upM_bool, boolV, boolV_getD, hd]; try simp (disch := omega) only [av_w, av_t1, av_tp, Int.toNat_natCast]))
  obtain ⟨G, hG⟩ : ∃ G, G = goneF f f.lots.length := ⟨_, rfl⟩
  rw [← hG]
  refine aw_loopI (fun j : Nat => ⟨[(0, .yl 3), (1, .ptr 2 0), (53, .ptr 1 0), (55, vI 0), (3, .mp 4), (36, vI N), (37, vI j)],
    [(4, .map .i 3 (.bool false) (boolV false) (mpV boolV (metM G))), (3, .loop L .ready none), (2, .cells 24 (dV (flowD f))), (1, .cells 26 [.ow 5 1 (intD 0) ((endAt f j).map intD)]), (5, .tok 3 1 (endAt f j).length), (0, .cells 24 (dV (flowD f)))], 6⟩)
    (fun j => j ≤ N) (fun j => N - j) 0 (Nat.zero_le _) (wk_of [(0, some 0), (1, some 1), (2, some 2), (3, some 3), (4, some 4), (5, none)] rfl rfl ?_ ?_) ?_
  · simp only [wkA, reduceIte, Nat.reduceEqDiff]
    (repeat' (first | exact trivial | rfl | exact rfl | exact subVs_d _ _ | exact subVs_dm _ _ | exact subD_refl _ | refine And.intro ?_ ?_))
  · simp only [wkA, reduceIte, Nat.reduceEqDiff]
    (repeat' (first | ((exact subM_mpV (subV_bool _) rfl)) | exact trivial | rfl | exact rfl | exact subVs_d _ _ | exact subVs_dm _ _ | exact subD_refl _ | refine And.intro ?_ ?_))
  intro j hj
  have hel := endAt_len f j
  rcases Nat.lt_or_ge j N with hjlt | hjge
  · have hd2 : decide ((j : Int) < (N : Int)) = true := decide_eq_true (by omega)
    have hes := endAt_succ f j
    rw [← hG] at hes
    by_cases hm : (j : Int) ∈ G
    · have hz : lkA [(j : Int)] (metM G) = some true := by rw [lkA_metM, if_pos hm]
      rw [decide_eq_true hm, if_pos rfl, List.append_nil] at hes
      repeat' (first | (with_reducible refine aw_seq ?_) | ((with_reducible refine twoG_intro ?_ ?_) <;> intro h <;> first | contradiction | ((try simp only [h, avT]); (first | (guard_hyp h : true = true; clear h) | (guard_hyp h : false = false; clear h) | (revert h; intro _)))) | ((with_reducible refine two_intro ?_ ?_) <;> intro h <;> first | contradiction | ((first | (guard_hyp h : true = true; clear h) | (guard_hyp h : false = false; clear h) | (revert h; intro _)))) | ((with_reducible refine And.intro ?_ ?_); (focus (first | exact keyOk_int_ | omega | rfl | decide | grind))) | (with_reducible refine aw_block ?_) | (with_reducible refine aw_scope ?_) | ((first | ((with_reducible refine aw_regionA T_ok ?_ ?_); kernel_rfl) | ((with_reducible refine aw_drawnA T_ok ?_ ?_ ?_ ?_); kernel_rfl; kernel_rfl; (focus (decide +kernel))) | ((with_reducible refine aw_drawnF T_ok ?_ ?_ ?_ ?_); kernel_rfl; kernel_rfl; (focus (decide +kernel))) | ((with_reducible refine callK_skip (.r1 (aB true)) (by with_unfolding_all rfl) ?_ ?_); kernel_rfl) | ((with_reducible apply yieldI_in 0 0 (hL1 := hLp) (hL2 := hLa) (hL3 := hLb) (hsz := hLt.1)); (focus rfl); (focus rfl); (focus rfl); kernel_rfl; (focus (dsimp only [Base.inn, Base.inr])); (focus exact (fun t ht => (hLt.2 t ht).trans (by rw [Nat.zero_add]; rfl))); kernel_rfl; intro _) | (with_reducible refine aw_label ?_) | ((with_reducible refine aw_rfM ?_ ?_); kernel_rfl) | (with_reducible refine aw_skip ?_) | (with_reducible refine aw_exit ?_) | ((with_reducible refine aw_condM ?_ ?_); kernel_rfl) | (with_reducible refine aw_ret ?_)); simp only [↓avP, avQ, avR, forall_const, implies_true, reduceIte, Nat.reduceEqDiff, Nat.reduceAdd, Nat.reduceSub, Int.reduceToNat, Nat.reduceLeDiff, Nat.reduceLT, reduceCtorEq, Int.reduceEq, avS, intD_B, lotD_B, flowD_B, snocI, snocL, ty_3, ty_26, ty_4, ty_24, ty_50, ty_22, ty_83, lkM_bool, upM_bool, boolV, boolV_getD, hd2, hz]; try simp (disch := omega) only [av_w, av_t1, av_tp, Int.toNat_natCast]))
      refine ⟨j + 1, by omega, by dsimp only; omega, wk_of [(0, some 0), (1, some 1), (2, some 2), (3, some 3), (4, some 4), (5, some 5)] rfl rfl ?_ ?_⟩
      · simp only [wkA, reduceIte, Nat.reduceEqDiff]
        (repeat' (first | exact trivial | rfl | exact rfl | exact subVs_d _ _ | exact subVs_dm _ _ | exact subD_refl _ | refine And.intro ?_ ?_))
      · simp only [wkA, reduceIte, Nat.reduceEqDiff]
        rw [hes]
        (repeat' (first | ((exact subM_mpV (subV_bool _) rfl)) | exact trivial | rfl | exact rfl | exact subVs_d _ _ | exact subVs_dm _ _ | exact subD_refl _ | refine And.intro ?_ ?_))
    · have hz : lkA [(j : Int)] (metM G) = none := by rw [lkA_metM, if_neg hm]
      rw [decide_eq_false hm, if_neg (by simp)] at hes
      repeat' (first | (with_reducible refine aw_seq ?_) | ((with_reducible refine twoG_intro ?_ ?_) <;> intro h <;> first | contradiction | ((try simp only [h, avT]); (first | (guard_hyp h : true = true; clear h) | (guard_hyp h : false = false; clear h) | (revert h; intro _)))) | ((with_reducible refine two_intro ?_ ?_) <;> intro h <;> first | contradiction | ((first | (guard_hyp h : true = true; clear h) | (guard_hyp h : false = false; clear h) | (revert h; intro _)))) | ((with_reducible refine And.intro ?_ ?_); (focus (first | exact keyOk_int_ | omega | rfl | decide | grind))) | (with_reducible refine aw_block ?_) | (with_reducible refine aw_scope ?_) | ((first | ((with_reducible refine aw_regionA T_ok ?_ ?_); kernel_rfl) | ((with_reducible refine aw_drawnA T_ok ?_ ?_ ?_ ?_); kernel_rfl; kernel_rfl; (focus (decide +kernel))) | ((with_reducible refine aw_drawnF T_ok ?_ ?_ ?_ ?_); kernel_rfl; kernel_rfl; (focus (decide +kernel))) | ((with_reducible apply yieldI_in 0 0 (hL1 := hLp) (hL2 := hLa) (hL3 := hLb) (hsz := hLt.1)); (focus rfl); (focus rfl); (focus rfl); kernel_rfl; (focus (dsimp only [Base.inn, Base.inr])); (focus exact (fun t ht => (hLt.2 t ht).trans (by rw [Nat.zero_add]; rfl))); kernel_rfl; intro _) | (with_reducible refine aw_label ?_) | ((with_reducible refine aw_rfM ?_ ?_); kernel_rfl) | (with_reducible refine aw_skip ?_) | (with_reducible refine aw_exit ?_) | ((with_reducible refine aw_condM ?_ ?_); kernel_rfl) | (with_reducible refine aw_ret ?_)); simp only [↓avP, avQ, avR, forall_const, implies_true, reduceIte, Nat.reduceEqDiff, Nat.reduceAdd, Nat.reduceSub, Int.reduceToNat, Nat.reduceLeDiff, Nat.reduceLT, reduceCtorEq, Int.reduceEq, avS, intD_B, lotD_B, flowD_B, snocI, snocL, ty_3, ty_26, ty_4, ty_24, ty_50, ty_22, ty_83, lkM_bool, upM_bool, boolV, boolV_getD, hd2, hz]; try simp (disch := omega) only [av_w, av_t1, av_tp, Int.toNat_natCast]))
      refine ⟨j + 1, by omega, by dsimp only; omega, wk_of [(0, some 0), (1, some 1), (2, some 2), (3, some 3), (4, some 4), (5, some 7)] rfl rfl ?_ ?_⟩
      · simp only [wkA, reduceIte, Nat.reduceEqDiff]
        (repeat' (first | exact trivial | rfl | exact rfl | exact subVs_d _ _ | exact subVs_dm _ _ | exact subD_refl _ | refine And.intro ?_ ?_))
      · simp only [wkA, reduceIte, Nat.reduceEqDiff]
        rw [hes]
        (repeat' (first | ((exact subM_mpV (subV_bool _) rfl)) | ((simp)) | exact trivial | rfl | exact rfl | exact subVs_d _ _ | exact subVs_dm _ _ | exact subD_refl _ | refine And.intro ?_ ?_))
  · obtain rfl : j = N := by omega
    have hd2 : decide ((j : Int) < (j : Int)) = false := decide_eq_false (by omega)
    repeat' (first | (with_reducible refine aw_seq ?_) | ((with_reducible refine twoG_intro ?_ ?_) <;> intro h <;> first | contradiction | ((try simp only [h, avT]); (first | (guard_hyp h : true = true; clear h) | (guard_hyp h : false = false; clear h) | (revert h; intro _)))) | ((with_reducible refine two_intro ?_ ?_) <;> intro h <;> first | contradiction | ((first | (guard_hyp h : true = true; clear h) | (guard_hyp h : false = false; clear h) | (revert h; intro _)))) | ((with_reducible refine And.intro ?_ ?_); (focus (first | exact keyOk_int_ | omega | rfl | decide | grind))) | (with_reducible refine aw_block ?_) | (with_reducible refine aw_scope ?_) | ((first | ((with_reducible refine aw_regionA T_ok ?_ ?_); kernel_rfl) | ((with_reducible refine aw_drawnA T_ok ?_ ?_ ?_ ?_); kernel_rfl; kernel_rfl; (focus (decide +kernel))) | ((with_reducible refine aw_drawnF T_ok ?_ ?_ ?_ ?_); kernel_rfl; kernel_rfl; (focus (decide +kernel))) | (with_reducible refine aw_label ?_) | ((with_reducible refine aw_rfM ?_ ?_); kernel_rfl) | (with_reducible refine aw_skip ?_) | (with_reducible refine aw_exit ?_) | ((with_reducible refine aw_condM ?_ ?_); kernel_rfl) | (with_reducible refine aw_ret ?_)); simp only [↓avP, avQ, avR, forall_const, implies_true, reduceIte, Nat.reduceEqDiff, Nat.reduceAdd, Nat.reduceSub, Int.reduceToNat, Nat.reduceLeDiff, Nat.reduceLT, reduceCtorEq, Int.reduceEq, avS, intD_B, lotD_B, flowD_B, snocI, snocL, ty_3, ty_26, ty_4, ty_24, ty_50, ty_22, ty_83, lkM_bool, upM_bool, boolV, boolV_getD, hd2]; try simp (disch := omega) only [av_w, av_t1, av_tp, Int.toNat_natCast]))
    rw [endsR, if_pos hc, hNe]
    exact ⟨Sub.refl _, Sub.refl _⟩
end Go.Proofs.Ytlnkmaejiceloaa


namespace Go.Proofs.Ytlnkmaejiceloaa
set_option linter.unusedSimpArgs false
set_option linter.unusedVariables false
open Go.RowKit
set_option maxRecDepth 100000
set_option maxHeartbeats 4000000
theorem filter_succW {l : List Int} (p : Int → Bool) {k : Nat} (h : k < l.length) : (l.take (k + 1)).filter p = if p (l.getD k 0) = true then (l.take k).filter p ++ [l.getD k 0] else (l.take k).filter p := by
  have e : l.getD k 0 = l[k] := by simp [List.getD, h]
  rw [List.take_succ_eq_append_getElem h, List.filter_append, e]
  by_cases hp : p l[k] = true <;> simp [hp]
theorem filter_lenW (l : List Int) (p : Int → Bool) (k : Nat) : ((l.take k).filter p).length ≤ l.length :=
  Nat.le_trans (List.length_filter_le _ _) (List.length_take_le' _ _)
theorem endsF_le {f : FlowP} (hc : checkF f = 0) : (endsF f).length ≤ 50000 := by
  have z := checkF_zero hc
  have h := endAt_len f (befF f f.lots.length).toNat
  have : endsF f = endAt f (befF f f.lots.length).toNat := rfl
  rw [this]
  omega
theorem has_end {f : FlowP} {n : Nat} (hc : checkF f = 0) (hs : (n : Int) < f.senders) {t : Int} (ht : t ∈ endsF f) : Spec Try.prog 81 [aWs (spW f n f.lots.length), aI t] (.r1 (aB (decide (t ∈ spL f n f.lots.length)))) := by
  have hb := mem_endsF.1 ht
  have z := checkF_zero hc
  have h := whas_spec (spW f n f.lots.length) t.toNat (spW_ok _ _ _) (by rw [spW_len]; unfold nW; omega) (by rw [spW_len]; unfold nW; omega)
  rw [(spW_set hc hs f.lots.length (Nat.le_refl _)).1, Int.toNat_of_nonneg hb.1] at h
  exact h
theorem wends_spec (f : FlowP) (s : Int) (hf : OkF f) : Spec Try.prog 39 [.agg (flowD f), aI s] (.rt [aIs (endR f s), aI (errE f s)]) := by
  refine spec_of T_ok Try.func39 (by dsimp only [Try.f39]) rfl rfl (by simp) fun w F => ?_
  have hE := fends_spec f hf
  by_cases hc : checkF f = 0
  rotate_left
  · have hd : (checkF f != 0) = true := by simpa using hc
    repeat' (first | (with_reducible refine aw_seq ?_) | ((with_reducible refine twoG_intro ?_ ?_) <;> intro h <;> first | contradiction | ((try simp only [h, avT]); (first | (guard_hyp h : true = true; clear h) | (guard_hyp h : false = false; clear h) | (revert h; intro _)))) | ((with_reducible refine two_intro ?_ ?_) <;> intro h <;> first | contradiction | ((first | (guard_hyp h : true = true; clear h) | (guard_hyp h : false = false; clear h) | (revert h; intro _)))) | ((with_reducible refine And.intro ?_ ?_); (focus (first | omega | rfl | decide | grind))) | (with_reducible refine aw_block ?_) | (with_reducible refine aw_scope ?_) | ((first | ((with_reducible refine aw_regionA T_ok ?_ ?_); kernel_rfl) | ((with_reducible refine aw_drawnA T_ok ?_ ?_ ?_ ?_); kernel_rfl; kernel_rfl; (focus (decide +kernel))) | ((with_reducible refine aw_drawnF T_ok ?_ ?_ ?_ ?_); kernel_rfl; kernel_rfl; (focus (decide +kernel))) | ((with_reducible refine callK_intro (hE) (by with_unfolding_all rfl) ?_ ?_); kernel_rfl) | ((with_reducible refine callI_spec (hE) (by with_unfolding_all rfl) ?_ ?_ ?_); kernel_rfl; kernel_rfl) | (with_reducible refine aw_label ?_) | ((with_reducible refine aw_rfM ?_ ?_); kernel_rfl) | (with_reducible refine aw_skip ?_) | (with_reducible refine aw_exit ?_) | ((with_reducible refine aw_condM ?_ ?_); kernel_rfl) | (with_reducible refine aw_ret ?_)); simp only [↓avP, avQ, avR, forall_const, implies_true, reduceIte, Nat.reduceEqDiff, Nat.reduceAdd, Nat.reduceSub, Int.reduceToNat, Nat.reduceLeDiff, Nat.reduceLT, reduceCtorEq, Int.reduceEq, avS, intD_B, u64D_B, lotD_B, flowD_B, snocI, snocL, ty_3, ty_102, ty_96, ty_26, ty_4, ty_24, ty_50, ty_22, ty_25, hd]; try simp (disch := omega) only [av_w, av_t1, av_tp, Int.toNat_natCast]))
    have : errE f s = checkF f := by rw [errE, if_pos hc]
    rw [endR, this, if_neg hc]
    exact ⟨Sub.nil _ _, Sub.refl _⟩
  rw [hc] at hE
  rw [show endsR f = endsF f by rw [endsR, if_pos hc]] at hE
  by_cases hs : s < 0 ∨ f.senders ≤ s
  · have hd : (decide (s < 0) || decide (s ≥ f.senders)) = true := by simpa using hs
    repeat' (first | (with_reducible refine aw_seq ?_) | ((with_reducible refine twoG_intro ?_ ?_) <;> intro h <;> first | contradiction | ((try simp only [h, avT]); (first | (guard_hyp h : true = true; clear h) | (guard_hyp h : false = false; clear h) | (revert h; intro _)))) | ((with_reducible refine two_intro ?_ ?_) <;> intro h <;> first | contradiction | ((first | (guard_hyp h : true = true; clear h) | (guard_hyp h : false = false; clear h) | (revert h; intro _)))) | ((with_reducible refine And.intro ?_ ?_); (focus (first | omega | rfl | decide | grind))) | (with_reducible refine aw_block ?_) | (with_reducible refine aw_scope ?_) | ((first | ((with_reducible refine aw_regionA T_ok ?_ ?_); kernel_rfl) | ((with_reducible refine aw_drawnA T_ok ?_ ?_ ?_ ?_); kernel_rfl; kernel_rfl; (focus (decide +kernel))) | ((with_reducible refine aw_drawnF T_ok ?_ ?_ ?_ ?_); kernel_rfl; kernel_rfl; (focus (decide +kernel))) | ((with_reducible refine callK_intro (hE) (by with_unfolding_all rfl) ?_ ?_); kernel_rfl) | ((with_reducible refine callI_spec (hE) (by with_unfolding_all rfl) ?_ ?_ ?_); kernel_rfl; kernel_rfl) | (with_reducible refine aw_label ?_) | ((with_reducible refine aw_rfM ?_ ?_); kernel_rfl) | (with_reducible refine aw_skip ?_) | (with_reducible refine aw_exit ?_) | ((with_reducible refine aw_condM ?_ ?_); kernel_rfl) | (with_reducible refine aw_ret ?_)); simp only [↓avP, avQ, avR, forall_const, implies_true, reduceIte, Nat.reduceEqDiff, Nat.reduceAdd, Nat.reduceSub, Int.reduceToNat, Nat.reduceLeDiff, Nat.reduceLT, reduceCtorEq, Int.reduceEq, avS, intD_B, u64D_B, lotD_B, flowD_B, snocI, snocL, ty_3, ty_102, ty_96, ty_26, ty_4, ty_24, ty_50, ty_22, ty_25, hd]; try simp (disch := omega) only [av_w, av_t1, av_tp, Int.toNat_natCast]))
    have : errE f s = 1 := by rw [errE, if_neg (by simpa using hc), if_pos hs]
    rw [endR, this, if_neg (by decide)]
    exact ⟨Sub.nil _ _, Sub.refl _⟩
  have hd : (decide (s < 0) || decide (s ≥ f.senders)) = false := by simp; omega
  have he : errE f s = 0 := by rw [errE, if_neg (by simpa using hc), if_neg hs]
  obtain ⟨n, hn⟩ : ∃ n : Nat, s = n := ⟨s.toNat, by omega⟩
  subst hn
  have hsp := wspots_spec f n hf hc (by omega)
  repeat' (first | (with_reducible refine aw_seq ?_) | ((with_reducible refine twoG_intro ?_ ?_) <;> intro h <;> first | contradiction | ((try simp only [h, avT]); (first | (guard_hyp h : true = true; clear h) | (guard_hyp h : false = false; clear h) | (revert h; intro _)))) | ((with_reducible refine two_intro ?_ ?_) <;> intro h <;> first | contradiction | ((first | (guard_hyp h : true = true; clear h) | (guard_hyp h : false = false; clear h) | (revert h; intro _)))) | ((with_reducible refine And.intro ?_ ?_); (focus (first | omega | rfl | decide | grind))) | (with_reducible refine aw_block ?_) | (with_reducible refine aw_scope ?_) | ((first | ((with_reducible refine aw_regionA T_ok ?_ ?_); kernel_rfl) | ((with_reducible refine aw_drawnA T_ok ?_ ?_ ?_ ?_); kernel_rfl; kernel_rfl; (focus (decide +kernel))) | ((with_reducible refine aw_drawnF T_ok ?_ ?_ ?_ ?_); kernel_rfl; kernel_rfl; (focus (decide +kernel))) | ((with_reducible refine callK_intro (hE) (by with_unfolding_all rfl) ?_ ?_); kernel_rfl) | ((with_reducible refine callI_spec (hE) (by with_unfolding_all rfl) ?_ ?_ ?_); kernel_rfl; kernel_rfl) | ((with_reducible apply callI_in T_ok Try.func63); (focus (dsimp only [Try.f63])); (focus rfl); (focus rfl); kernel_rfl; (focus exact of_decide_eq_true (by kernel_rfl)); (focus (first | exact hdB | kernel_rfl)); kernel_rfl; intro _) | ((with_reducible apply callI_in T_ok Try.func62); (focus (dsimp only [Try.f62])); (focus rfl); (focus rfl); kernel_rfl; (focus exact of_decide_eq_true (by kernel_rfl)); (focus (first | exact hdB | kernel_rfl)); kernel_rfl; intro _) | ((with_reducible apply callI_in T_ok Try.func78); (focus (dsimp only [Try.f78])); (focus rfl); (focus rfl); kernel_rfl; (focus exact of_decide_eq_true (by kernel_rfl)); (focus (first | exact hdB | kernel_rfl)); kernel_rfl; intro _) | ((with_reducible apply rfI_in Try.func79); (focus (dsimp only [Try.f79])); (focus (dsimp only [Base.inn, Base.inr])); (focus rfl); (focus rfl); kernel_rfl; (focus exact of_decide_eq_true (by kernel_rfl)); kernel_rfl; intro aL L hLp hLa hLb hLt) | ((with_reducible refine callK_intro (hsp) (by with_unfolding_all rfl) ?_ ?_); kernel_rfl) | ((with_reducible refine callI_spec (hsp) (by with_unfolding_all rfl) ?_ ?_ ?_); kernel_rfl; kernel_rfl) | (with_reducible refine aw_label ?_) | ((with_reducible refine aw_rfM ?_ ?_); kernel_rfl) | (with_reducible refine aw_skip ?_) | (with_reducible refine aw_exit ?_) | ((with_reducible refine aw_condM ?_ ?_); kernel_rfl) | (with_reducible refine aw_ret ?_)); simp only [↓avP, avQ, avR, forall_const, implies_true, reduceIte, Nat.reduceEqDiff, Nat.reduceAdd, Nat.reduceSub, Int.reduceToNat, Nat.reduceLeDiff, Nat.reduceLT, reduceCtorEq, Int.reduceEq, avS, intD_B, u64D_B, lotD_B, flowD_B, snocI, snocL, ty_3, ty_102, ty_96, ty_26, ty_4, ty_24, ty_50, ty_22, ty_25, hd]; try simp (disch := omega) only [av_w, av_t1, av_tp, Int.toNat_natCast]))
  have hR : endR f n = (endsF f).filter fun t => decide (t ∈ spL f n f.lots.length) := by rw [endR, if_pos he]; rfl
  have hh := fun {t : Int} (ht : t ∈ endsF f) => has_end (n := n) hc (by omega) ht
  have hEl := endsF_le hc
  obtain ⟨p, hp⟩ : ∃ p : Int → Bool, p = fun t => decide (t ∈ spL f n f.lots.length) := ⟨_, rfl⟩
  obtain ⟨E, hEe⟩ : ∃ E, E = endsF f := ⟨_, rfl⟩
  obtain ⟨ws, hws⟩ : ∃ ws, ws = spW f n f.lots.length := ⟨_, rfl⟩
  rw [← hEe, ← hp] at hR
  rw [← hEe] at hEl ⊢
  rw [← hws]
  have hh : ∀ {t : Int}, t ∈ E → Spec Try.prog 81 [aWs ws, aI t] (.r1 (aB (p t))) := fun {t} ht => by
    rw [hws, hp]; exact hh (hEe ▸ ht)
  refine aw_loopI (fun k : Nat => ⟨[(0, .yl 5), (5, .d (.sl 1 (u64D 0) (ws.map u64D))), (11, vIs E), (12, vI E.length), (13, vI k), (29, .ptr 4 0)],
      [(5, .loop L .ready none), (4, .cells 26 [.ow 6 1 (intD 0) (((E.take k).filter p).map intD)]), (6, .tok 3 1 ((E.take k).filter p).length)], 7⟩)
    (fun k => k ≤ E.length) (fun k => E.length - k) 0 (Nat.zero_le _) (wk_of [(4, some 4), (5, some 5), (6, none)] rfl rfl ?_ ?_) ?_
  · simp only [wkA, reduceIte, Nat.reduceEqDiff]
    (repeat' (first | exact trivial | rfl | exact rfl | exact subVs_d _ _ | exact subVs_dm _ _ | exact subD_refl _ | refine And.intro ?_ ?_))
  · simp only [wkA, reduceIte, Nat.reduceEqDiff]
    (repeat' (first | exact trivial | rfl | exact rfl | exact subVs_d _ _ | exact subVs_dm _ _ | exact subD_refl _ | refine And.intro ?_ ?_))
  intro k hk
  have hfl := filter_lenW E p k
  have hfs := fun h => filter_succW (l := E) p (k := k) h
  obtain ⟨X, hX⟩ : ∃ X, X = (E.take k).filter p := ⟨_, rfl⟩
  rw [← hX] at hfl hfs ⊢
  rcases Nat.lt_or_ge k E.length with hlt | hge
  · have hd2 := ltd hlt
    have hfs := hfs hlt
    have h1 := hh (getD_mem hlt)
    cases hb : p (E.getD k 0) with
    | true =>
      rw [hb] at h1
      rw [if_pos hb] at hfs
      repeat' (first | (with_reducible refine aw_seq ?_) | ((with_reducible refine twoG_intro ?_ ?_) <;> intro h <;> first | contradiction | ((try simp only [h, avT]); (first | (guard_hyp h : true = true; clear h) | (guard_hyp h : false = false; clear h) | (revert h; intro _)))) | ((with_reducible refine two_intro ?_ ?_) <;> intro h <;> first | contradiction | ((first | (guard_hyp h : true = true; clear h) | (guard_hyp h : false = false; clear h) | (revert h; intro _)))) | ((with_reducible refine And.intro ?_ ?_); (focus (first | omega | rfl | decide | grind))) | (with_reducible refine aw_block ?_) | (with_reducible refine aw_scope ?_) | ((first | ((with_reducible refine aw_regionA T_ok ?_ ?_); kernel_rfl) | ((with_reducible refine aw_drawnA T_ok ?_ ?_ ?_ ?_); kernel_rfl; kernel_rfl; (focus (decide +kernel))) | ((with_reducible refine aw_drawnF T_ok ?_ ?_ ?_ ?_); kernel_rfl; kernel_rfl; (focus (decide +kernel))) | ((with_reducible refine callK_intro (h1) (by with_unfolding_all rfl) ?_ ?_); kernel_rfl) | ((with_reducible refine callI_spec (h1) (by with_unfolding_all rfl) ?_ ?_ ?_); kernel_rfl; kernel_rfl) | ((with_reducible apply yieldI_in 0 0 (hL1 := hLp) (hL2 := hLa) (hL3 := hLb) (hsz := hLt.1)); (focus rfl); (focus rfl); (focus rfl); kernel_rfl; (focus (dsimp only [Base.inn, Base.inr])); (focus exact (fun t ht => (hLt.2 t ht).trans (by rw [Nat.zero_add]; rfl))); kernel_rfl; intro _) | (with_reducible refine aw_label ?_) | ((with_reducible refine aw_rfM ?_ ?_); kernel_rfl) | (with_reducible refine aw_skip ?_) | (with_reducible refine aw_exit ?_) | ((with_reducible refine aw_condM ?_ ?_); kernel_rfl) | (with_reducible refine aw_ret ?_)); simp only [↓avP, avQ, avR, forall_const, implies_true, reduceIte, Nat.reduceEqDiff, Nat.reduceAdd, Nat.reduceSub, Int.reduceToNat, Nat.reduceLeDiff, Nat.reduceLT, reduceCtorEq, Int.reduceEq, avS, intD_B, u64D_B, lotD_B, flowD_B, snocI, snocL, ty_3, ty_102, ty_96, ty_26, ty_4, ty_24, ty_50, ty_22, ty_25, hd2]; try simp (disch := omega) only [av_w, av_t1, av_tp, Int.toNat_natCast]))
      refine ⟨k + 1, by omega, by dsimp only; omega, wk_of [(4, some 4), (5, some 5), (6, some 8)] rfl rfl ?_ ?_⟩
      · simp only [wkA, reduceIte, Nat.reduceEqDiff]
        (repeat' (first | exact trivial | rfl | exact rfl | exact subVs_d _ _ | exact subVs_dm _ _ | exact subD_refl _ | refine And.intro ?_ ?_))
      · simp only [wkA, reduceIte, Nat.reduceEqDiff]
        rw [hfs]
        (repeat' (first | ((simp; done)) | exact trivial | rfl | exact rfl | exact subVs_d _ _ | exact subVs_dm _ _ | exact subD_refl _ | refine And.intro ?_ ?_))
    | false =>
      rw [hb] at h1
      rw [if_neg (by rw [hb]; simp)] at hfs
      repeat' (first | (with_reducible refine aw_seq ?_) | ((with_reducible refine twoG_intro ?_ ?_) <;> intro h <;> first | contradiction | ((try simp only [h, avT]); (first | (guard_hyp h : true = true; clear h) | (guard_hyp h : false = false; clear h) | (revert h; intro _)))) | ((with_reducible refine two_intro ?_ ?_) <;> intro h <;> first | contradiction | ((first | (guard_hyp h : true = true; clear h) | (guard_hyp h : false = false; clear h) | (revert h; intro _)))) | ((with_reducible refine And.intro ?_ ?_); (focus (first | omega | rfl | decide | grind))) | (with_reducible refine aw_block ?_) | (with_reducible refine aw_scope ?_) | ((first | ((with_reducible refine aw_regionA T_ok ?_ ?_); kernel_rfl) | ((with_reducible refine aw_drawnA T_ok ?_ ?_ ?_ ?_); kernel_rfl; kernel_rfl; (focus (decide +kernel))) | ((with_reducible refine aw_drawnF T_ok ?_ ?_ ?_ ?_); kernel_rfl; kernel_rfl; (focus (decide +kernel))) | ((with_reducible refine callK_intro (h1) (by with_unfolding_all rfl) ?_ ?_); kernel_rfl) | ((with_reducible refine callI_spec (h1) (by with_unfolding_all rfl) ?_ ?_ ?_); kernel_rfl; kernel_rfl) | ((with_reducible refine callK_skip (.r1 (aB true)) (by with_unfolding_all rfl) ?_ ?_); kernel_rfl) | ((with_reducible apply yieldI_in 0 0 (hL1 := hLp) (hL2 := hLa) (hL3 := hLb) (hsz := hLt.1)); (focus rfl); (focus rfl); (focus rfl); kernel_rfl; (focus (dsimp only [Base.inn, Base.inr])); (focus exact (fun t ht => (hLt.2 t ht).trans (by rw [Nat.zero_add]; rfl))); kernel_rfl; intro _) | (with_reducible refine aw_label ?_) | ((with_reducible refine aw_rfM ?_ ?_); kernel_rfl) | (with_reducible refine aw_skip ?_) | (with_reducible refine aw_exit ?_) | ((with_reducible refine aw_condM ?_ ?_); kernel_rfl) | (with_reducible refine aw_ret ?_)); simp only [↓avP, avQ, avR, forall_const, implies_true, reduceIte, Nat.reduceEqDiff, Nat.reduceAdd, Nat.reduceSub, Int.reduceToNat, Nat.reduceLeDiff, Nat.reduceLT, reduceCtorEq, Int.reduceEq, avS, intD_B, u64D_B, lotD_B, flowD_B, snocI, snocL, ty_3, ty_102, ty_96, ty_26, ty_4, ty_24, ty_50, ty_22, ty_25, hd2]; try simp (disch := omega) only [av_w, av_t1, av_tp, Int.toNat_natCast]))
      refine ⟨k + 1, by omega, by dsimp only; omega, wk_of [(4, some 4), (5, some 5), (6, some 6)] rfl rfl ?_ ?_⟩
      · simp only [wkA, reduceIte, Nat.reduceEqDiff]
        (repeat' (first | exact trivial | rfl | exact rfl | exact subVs_d _ _ | exact subVs_dm _ _ | exact subD_refl _ | refine And.intro ?_ ?_))
      · simp only [wkA, reduceIte, Nat.reduceEqDiff]
        rw [hfs]
        (repeat' (first | exact trivial | rfl | exact rfl | exact subVs_d _ _ | exact subVs_dm _ _ | exact subD_refl _ | refine And.intro ?_ ?_))
  obtain rfl : k = E.length := by omega
  have hd2 := ged (Nat.le_refl E.length)
  rw [List.take_length] at hX
  repeat' (first | (with_reducible refine aw_seq ?_) | ((with_reducible refine twoG_intro ?_ ?_) <;> intro h <;> first | contradiction | ((try simp only [h, avT]); (first | (guard_hyp h : true = true; clear h) | (guard_hyp h : false = false; clear h) | (revert h; intro _)))) | ((with_reducible refine two_intro ?_ ?_) <;> intro h <;> first | contradiction | ((first | (guard_hyp h : true = true; clear h) | (guard_hyp h : false = false; clear h) | (revert h; intro _)))) | ((with_reducible refine And.intro ?_ ?_); (focus (first | omega | rfl | decide | grind))) | (with_reducible refine aw_block ?_) | (with_reducible refine aw_scope ?_) | ((first | ((with_reducible refine aw_regionA T_ok ?_ ?_); kernel_rfl) | ((with_reducible refine aw_drawnA T_ok ?_ ?_ ?_ ?_); kernel_rfl; kernel_rfl; (focus (decide +kernel))) | ((with_reducible refine aw_drawnF T_ok ?_ ?_ ?_ ?_); kernel_rfl; kernel_rfl; (focus (decide +kernel))) | (with_reducible refine aw_label ?_) | ((with_reducible refine aw_rfM ?_ ?_); kernel_rfl) | (with_reducible refine aw_skip ?_) | (with_reducible refine aw_exit ?_) | ((with_reducible refine aw_condM ?_ ?_); kernel_rfl) | (with_reducible refine aw_ret ?_)); simp only [↓avP, avQ, avR, forall_const, implies_true, reduceIte, Nat.reduceEqDiff, Nat.reduceAdd, Nat.reduceSub, Int.reduceToNat, Nat.reduceLeDiff, Nat.reduceLT, reduceCtorEq, Int.reduceEq, avS, intD_B, u64D_B, lotD_B, flowD_B, snocI, snocL, ty_3, ty_102, ty_96, ty_26, ty_4, ty_24, ty_50, ty_22, ty_25, hd2]; try simp (disch := omega) only [av_w, av_t1, av_tp, Int.toNat_natCast]))
  rw [hR, he, ← hX]
  exact ⟨Sub.refl _, Sub.refl _⟩
end Go.Proofs.Ytlnkmaejiceloaa


namespace Go.Proofs.Ytlnkmaejiceloaa
set_option linter.unusedSimpArgs false
set_option linter.unusedVariables false
open Go.RowKit
def crowdF (f : FlowP) (lines : List (List Int)) (x : List Int) (s : Int) : Nat := (endR (viewR f lines x) s).length
def keyF (lines : List (List Int)) (x : List Int) (k : Nat) : List Nat := (List.range k).map fun i => if seesB lines x i = true then 1 else 0
def keyAt (lines : List (List Int)) (x : List Int) (k n : Nat) : List Nat := keyF lines x k ++ List.replicate (n - k) 0
theorem keyF_len (lines : List (List Int)) (x : List Int) (k : Nat) : (keyF lines x k).length = k := by simp [keyF]
theorem keyF_succ (lines : List (List Int)) (x : List Int) (k : Nat) : keyF lines x (k + 1) = keyF lines x k ++ [if seesB lines x k = true then 1 else 0] := by simp [keyF, List.range_succ]
theorem keyAt_len (lines : List (List Int)) (x : List Int) {k n : Nat} (h : k ≤ n) : (keyAt lines x k n).length = n := by simp [keyAt, keyF_len]; omega
theorem keyAt_zero (lines : List (List Int)) (x : List Int) (n : Nat) : keyAt lines x 0 n = List.replicate n 0 := by simp [keyAt, keyF]
theorem keyAt_all (lines : List (List Int)) (x : List Int) (n : Nat) : keyAt lines x n n = keyF lines x n := by simp [keyAt]
theorem keyAt_yes {lines : List (List Int)} {x : List Int} {k n : Nat} (h : k < n) (hs : seesB lines x k = true) : (keyAt lines x k n).set k 1 = keyAt lines x (k + 1) n := by
  unfold keyAt
  rw [keyF_succ, if_pos hs, show n - k = (n - (k + 1)) + 1 by omega, List.replicate_succ, List.set_append_right (i := k) (s := keyF lines x k) 1 (by rw [keyF_len]; exact Nat.le_refl _), keyF_len, Nat.sub_self, List.set_cons_zero, List.append_assoc]
  rfl
theorem keyAt_no {lines : List (List Int)} {x : List Int} {k n : Nat} (h : k < n) (hs : seesB lines x k = false) : keyAt lines x k n = keyAt lines x (k + 1) n := by
  unfold keyAt
  rw [keyF_succ, if_neg (by rw [hs]; simp), show n - k = (n - (k + 1)) + 1 by omega, List.replicate_succ, List.append_assoc]
  rfl
theorem keyF_sees {lines : List (List Int)} {x y : List Int} {n : Nat} (h : keyF lines x n = keyF lines y n) {k : Nat} (hk : k < n) : seesB lines x k = seesB lines y k := by
  have := congrArg (fun l => l[k]?) h
  simp only [keyF, List.getElem?_map, List.getElem?_range hk, Option.map_some, Option.some.injEq] at this
  cases h1 : seesB lines x k <;> cases h2 : seesB lines y k <;> simp [h1, h2] at this <;> rfl
theorem crowd_key {f : FlowP} {lines : List (List Int)} {x y : List Int} {s : Int} (hx : errV f lines x = 0) (hy : errV f lines y = 0) (h : keyF lines x f.lots.length = keyF lines y f.lots.length) : crowdF f lines x s = crowdF f lines y s := by
  unfold crowdF
  have : viewR f lines x = viewR f lines y := by
    rw [viewR, if_pos hx, viewR, if_pos hy]
    congr 1
    unfold viewAt
    refine List.map_congr_left fun k hk => ?_
    unfold viewL
    rw [keyF_sees h (List.mem_range.1 hk)]
  rw [this]
def isCo (off : Nat) (c : List Int) : Prop := c.Pairwise (· < ·) ∧ ∀ x ∈ c, 0 ≤ x ∧ x < (off : Int)
def nextC (c : List Int) : Nat := if c.length = 0 then 0 else (c.getD (c.length - 1) 0).toNat + 1
def chL (off : Nat) : Nat → List Int → List (List Int)
  | 0, c => [c]
  | k + 1, c => (List.range' (nextC c) (off - nextC c)).flatMap fun i : Nat => chL off k (c ++ [(i : Int)])
def chU (off k : Nat) (c : List Int) (i : Nat) : List (List Int) := (List.range' (nextC c) (i - nextC c)).flatMap fun i : Nat => chL off k (c ++ [(i : Int)])
theorem chU_start (off k : Nat) (c : List Int) : chU off k c (nextC c) = [] := by simp [chU]
theorem chU_end (off k : Nat) (c : List Int) : chU off k c off = chL off (k + 1) c := rfl
theorem chU_succ (off k : Nat) (c : List Int) {i : Nat} (h : nextC c ≤ i) : chU off k c (i + 1) = chU off k c i ++ chL off k (c ++ [(i : Int)]) := by
  unfold chU
  rw [show i + 1 - nextC c = (i - nextC c) + 1 by omega, List.range'_concat]
  simp only [List.flatMap_append, List.flatMap_cons, List.flatMap_nil, List.append_nil, Nat.one_mul]
  rw [show nextC c + (i - nextC c) = i by omega]
theorem chU_over (off k : Nat) (c : List Int) {i : Nat} (h : off ≤ nextC c) (hi : i ≤ nextC c) : chU off k c i = chL off (k + 1) c := by
  rw [chL, chU, show i - nextC c = 0 by omega, show off - nextC c = 0 by omega]
theorem nextC_snoc (c : List Int) (i : Nat) : nextC (c ++ [(i : Int)]) = i + 1 := by
  unfold nextC
  rw [if_neg (by simp)]
  simp [List.getD]
theorem isCo.snoc {off : Nat} {c : List Int} (h : isCo off c) {i : Nat} (h1 : nextC c ≤ i) (h2 : i < off) : isCo off (c ++ [(i : Int)]) := by
  refine ⟨List.pairwise_append.2 ⟨h.1, by simp, fun a ha b hb => ?_⟩, fun x hx => ?_⟩
  · rw [List.mem_singleton.1 hb]
    rcases List.eq_nil_or_concat c with rfl | ⟨m, z, rfl⟩
    · cases ha
    · rw [List.concat_eq_append] at *
      have hz := (h.2 z (by simp)).1
      have hn : nextC (m ++ [z]) = z.toNat + 1 := by
        unfold nextC
        rw [if_neg (by simp)]
        simp [List.getD]
      rw [hn] at h1
      rcases List.mem_append.1 ha with ha | ha
      · have := (List.pairwise_append.1 h.1).2.2 a ha z (by simp)
        omega
      · rw [List.mem_singleton.1 ha]; omega
  · rcases List.mem_append.1 hx with hx | hx
    · exact h.2 x hx
    · rw [List.mem_singleton.1 hx]; omega
theorem isCo.nil (off : Nat) : isCo off [] := ⟨List.Pairwise.nil, fun x hx => by cases hx⟩
theorem isCo.mono {o1 o2 : Nat} {c : List Int} (h : isCo o1 c) (hle : o1 ≤ o2) : isCo o2 c := ⟨h.1, fun x hx => ⟨(h.2 x hx).1, by have := (h.2 x hx).2; omega⟩⟩
theorem isCo.coal {off : Nat} {c : List Int} (h : isCo off c) (ho : off ≤ 24) : coalB c = true := by
  refine coalB_of (fun x hx => ?_) h.1
  have := h.2 x hx
  unfold officeB
  rw [decide_eq_true this.1, decide_eq_true (show x < 24 by omega)]; rfl
theorem isCo.len {off : Nat} {c : List Int} (h : isCo off c) : c.length ≤ off := by
  have : ∀ (n : Nat) (c : List Int), c.Pairwise (· < ·) → (∀ x ∈ c, (n : Int) ≤ x ∧ x < (off : Int)) → c.length + n ≤ off ∨ c = [] := by
    intro n c
    induction c generalizing n with
    | nil => intro _ _; exact .inr rfl
    | cons a c ih =>
      intro hp hb
      left
      have ha := hb a (by simp)
      have hp' := List.pairwise_cons.1 hp
      rcases ih (n + 1) hp'.2 (fun x hx => ⟨by have := hp'.1 x hx; omega, (hb x (by simp [hx])).2⟩) with h | h
      · simp only [List.length_cons]; omega
      · subst h; simp only [List.length_cons, List.length_nil]; omega
  rcases this 0 c h.1 (fun x hx => ⟨(h.2 x hx).1, (h.2 x hx).2⟩) with h | h
  · omega
  · simp [h]
theorem isCo.next {off : Nat} {c : List Int} (h : isCo off c) : nextC c ≤ off := by
  rcases List.eq_nil_or_concat c with rfl | ⟨m, z, rfl⟩
  · simp [nextC]
  · rw [List.concat_eq_append] at *
    have hz := h.2 z (by simp)
    have hn : nextC (m ++ [z]) = z.toNat + 1 := by
      unfold nextC
      rw [if_neg (by simp)]
      simp [List.getD]
    rw [hn]; omega
theorem chU_pre (off k : Nat) (c : List Int) {j : Nat} (hj : nextC c ≤ j) : ∀ m, ∃ r, chU off k c (j + m) = chU off k c j ++ r
  | 0 => ⟨[], by simp⟩
  | m + 1 => by
    obtain ⟨r, h⟩ := chU_pre off k c hj m
    exact ⟨r ++ chL off k (c ++ [((j + m : Nat) : Int)]), by rw [← Nat.add_assoc, chU_succ _ _ _ (by omega), h, List.append_assoc]⟩
theorem chU_all (off k : Nat) (c : List Int) {j : Nat} (hj : nextC c ≤ j) (ho : j ≤ off) : ∃ r, chL off (k + 1) c = chU off k c j ++ r := by
  obtain ⟨r, h⟩ := chU_pre off k c hj (off - j)
  rw [show j + (off - j) = off by omega, chU_end] at h
  exact ⟨r, h⟩
def allL (off : Nat) (n : Nat) : List (List Int) := (List.range n).flatMap fun k => chL off k []
theorem allL_succ (off n : Nat) : allL off (n + 1) = allL off n ++ chL off n [] := by simp [allL, List.range_succ]
def coverB (L : List (List Int)) (x : List Int) : Bool := L.any fun y => y.all fun z => decide (z ∈ x)
def stepL (brk : List Int → Bool) (L : List (List Int)) (x : List Int) : List (List Int) := if (!coverB L x && brk x) = true then L ++ [x] else L
def keepL (brk : List Int → Bool) (L : List (List Int)) (xs : List (List Int)) : List (List Int) := xs.foldl (stepL brk) L
theorem stepL_len (brk : List Int → Bool) (L : List (List Int)) (x : List Int) : (stepL brk L x).length ≤ L.length + 1 := by
  unfold stepL; split <;> simp
theorem keepL_len (brk : List Int → Bool) (xs : List (List Int)) : ∀ L, (keepL brk L xs).length ≤ L.length + xs.length := by
  induction xs with
  | nil => intro L; simp [keepL]
  | cons x xs ih =>
    intro L
    have h1 := ih (stepL brk L x)
    have h2 := stepL_len brk L x
    simp only [keepL, List.foldl_cons, List.length_cons] at h1 ⊢
    omega
theorem chL_len (off : Nat) : ∀ (k : Nat) (c : List Int), (chL off k c).length ≤ 2 ^ (off - nextC c)
  | 0, c => by rw [chL, List.length_singleton]; exact Nat.one_le_two_pow
  | k + 1, c => by
    have : ∀ m, nextC c + m ≤ off → (chU off k c (nextC c + m)).length + 2 ^ (off - (nextC c + m)) ≤ 2 ^ (off - nextC c) := by
      intro m
      induction m with
      | zero => intro _; simp [chU_start]
      | succ m ih =>
        intro hm
        have h1 := ih (by omega)
        have h2 := chL_len off k (c ++ [((nextC c + m : Nat) : Int)])
        rw [nextC_snoc] at h2
        rw [show nextC c + (m + 1) = nextC c + m + 1 by omega, chU_succ _ _ _ (by omega), List.length_append]
        have h3 : 2 ^ (off - (nextC c + m)) = 2 ^ (off - (nextC c + m + 1)) + 2 ^ (off - (nextC c + m + 1)) := by
          rw [show off - (nextC c + m) = (off - (nextC c + m + 1)) + 1 by omega, Nat.pow_succ]; omega
        omega
    rcases Nat.lt_or_ge (nextC c) off with h | h
    · have := this (off - nextC c) (by omega)
      rw [show nextC c + (off - nextC c) = off by omega, chU_end] at this
      exact Nat.le_trans (Nat.le_add_right _ _) this
    · rw [← chU_over off k c h (Nat.le_refl _), chU_start]; simp
theorem allL_len {off n : Nat} (h : off ≤ 12) (hn : n ≤ 13) : (allL off n).length ≤ n * 4096 := by
  induction n with
  | zero => simp [allL]
  | succ n ih =>
    have h1 := ih (by omega)
    have h2 := chL_len off n []
    have h3 : 2 ^ (off - nextC []) ≤ 2 ^ 12 := Nat.pow_le_pow_right (by decide) (by omega)
    rw [allL_succ, List.length_append]
    omega
theorem chL_co {off : Nat} : ∀ (k : Nat) (c : List Int), isCo off c → ∀ x ∈ chL off k c, isCo off x ∧ x.length = c.length + k
  | 0, c, h, x, hx => by rw [chL, List.mem_singleton] at hx; subst hx; exact ⟨h, rfl⟩
  | k + 1, c, h, x, hx => by
    rw [chL, List.mem_flatMap] at hx
    obtain ⟨i, hi, hx⟩ := hx
    rw [List.mem_range'_1] at hi
    have := chL_co k _ (h.snoc (i := i) hi.1 (by omega)) x hx
    rw [List.length_append, List.length_singleton] at this
    exact ⟨this.1, by omega⟩
end Go.Proofs.Ytlnkmaejiceloaa

