import Derived.Test.YtlnkmaejiceloaaHL18
namespace Go.Proofs.Ytlnkmaejiceloaa
set_option linter.unusedSimpArgs false
set_option linter.unusedVariables false
open Go.RowKit
set_option maxRecDepth 100000
set_option maxHeartbeats 4000000
def errL (f : FlowP) (lines : List (List Int)) (o s : Int) : Int := if errB f lines [] s ≠ 0 then errB f lines [] s else if o < 0 then 1 else if 12 < o then 2 else 0
def leastR (f : FlowP) (lines : List (List Int)) (o s need : Int) : List (List Int) := if errL f lines o s = 0 then keepL (fun x => brkB f lines x s need) [] (allL o.toNat (o.toNat + 1)) else []
theorem bleast_spec (f : FlowP) (lines : List (List Int)) (o s need : Int) (ho : OkV f lines) (hoo : -9223372036854775808 ≤ o ∧ o ≤ 9223372036854775807) :
    Spec Try.prog 13 [.agg (flowD f), aIss lines, aI o, aI s, aI need] (.rt [aIss (leastR f lines o s need), aI (errL f lines o s)]) := by
  refine spec_of T_ok Try.func13 (by dsimp only [Try.f13]) rfl rfl (by simp) fun w F => ?_
  have hV := (fview_spec f lines [] ho.f ho.l ho.x (by simp) (by simp)).args (xs := [.agg (flowD f), aIss lines, .one (.c (.slice none 0 0))]) ⟨Sub.refl _, Sub.refl _, Sub.nil _ _, trivial⟩
  by_cases he : errV f lines [] = 0
  rotate_left
  · have hd : (errV f lines [] != 0) = true := by simpa using he
    have heB : errL f lines o s = errV f lines [] := by rw [errL, errB, if_pos he, if_pos he]
    have hbR : leastR f lines o s need = [] := by rw [leastR, heB, if_neg he]
    repeat' (first | (with_reducible refine aw_seq ?_) | ((with_reducible refine twoG_intro ?_ ?_) <;> intro h <;> first | contradiction | ((try simp only [h, avT]); (first | (guard_hyp h : true = true; clear h) | (guard_hyp h : false = false; clear h) | (revert h; intro _)))) | ((with_reducible refine two_intro ?_ ?_) <;> intro h <;> first | contradiction | ((first | (guard_hyp h : true = true; clear h) | (guard_hyp h : false = false; clear h) | (revert h; intro _)))) | ((with_reducible refine And.intro ?_ ?_); (focus (first | exact keyOk_str_ | omega | rfl | decide | grind))) | (with_reducible refine aw_block ?_) | (with_reducible refine aw_scope ?_) | ((first | ((with_reducible refine aw_regionA T_ok ?_ ?_); kernel_rfl) | ((with_reducible refine aw_drawnA T_ok ?_ ?_ ?_ ?_); kernel_rfl; kernel_rfl; (focus (decide +kernel))) | ((with_reducible refine aw_drawnF T_ok ?_ ?_ ?_ ?_); kernel_rfl; kernel_rfl; (focus (decide +kernel))) | ((with_reducible apply callI_in T_ok Try.func26); (focus (dsimp only [Try.f26])); (focus rfl); (focus rfl); kernel_rfl; (focus exact of_decide_eq_true (by kernel_rfl)); (focus (first | exact hdB | kernel_rfl)); kernel_rfl; intro _) | ((with_reducible refine callK_intro (hV) (by with_unfolding_all rfl) ?_ ?_); kernel_rfl) | ((with_reducible refine callI_spec (hV) (by with_unfolding_all rfl) ?_ ?_ ?_); kernel_rfl; kernel_rfl) | (with_reducible refine aw_label ?_) | ((with_reducible refine aw_rfM ?_ ?_); kernel_rfl) | (with_reducible refine aw_skip ?_) | (with_reducible refine aw_exit ?_) | ((with_reducible refine aw_condM ?_ ?_); kernel_rfl) | (with_reducible refine aw_ret ?_)); simp only [↓avP, avQ, avR, forall_const, implies_true, reduceIte, Nat.reduceEqDiff, Nat.reduceAdd, Nat.reduceSub, Int.reduceToNat, Nat.reduceLeDiff, Nat.reduceLT, reduceCtorEq, Int.reduceEq, avS, intD_B, byD_B, lotD_B, fl_ex, snocI, ty_3, ty_26, ty_4, ty_25, ty_9, ty_24, ty_50, ty_22, ty_56, ty_54, ty_44, ty_72, issD_get, viewV, nmB, unT_shT, unT_app, setT_sha, setT_sh, lkT_sha, lkT_sh, lkB_setB, lkB_delB, hd]; try simp (disch := omega) only [av_w, av_t1, av_tp, Int.toNat_natCast]))
    rw [heB, hbR]
    exact ⟨Sub.nil _ _, Sub.refl _⟩
  rw [he] at hV
  by_cases hs : 0 ≤ s ∧ s < f.senders
  rotate_left
  · have hd : (decide (s < 0) || decide (s ≥ f.senders)) = true := by
      rw [Bool.or_eq_true, decide_eq_true_eq, decide_eq_true_eq]; omega
    have heB0 : errB f lines [] s = 1 := by
      unfold errB
      rw [if_neg (by rw [he]; simp), if_pos (show s < 0 ∨ f.senders ≤ s by omega)]
    have heB : errL f lines o s = 1 := by rw [errL, heB0, if_pos (by decide)]
    have hbR : leastR f lines o s need = [] := by rw [leastR, heB, if_neg (by decide)]
    repeat' (first | (with_reducible refine aw_seq ?_) | ((with_reducible refine twoG_intro ?_ ?_) <;> intro h <;> first | contradiction | ((try simp only [h, avT]); (first | (guard_hyp h : true = true; clear h) | (guard_hyp h : false = false; clear h) | (revert h; intro _)))) | ((with_reducible refine two_intro ?_ ?_) <;> intro h <;> first | contradiction | ((first | (guard_hyp h : true = true; clear h) | (guard_hyp h : false = false; clear h) | (revert h; intro _)))) | ((with_reducible refine And.intro ?_ ?_); (focus (first | exact keyOk_str_ | omega | rfl | decide | grind))) | (with_reducible refine aw_block ?_) | (with_reducible refine aw_scope ?_) | ((first | ((with_reducible refine aw_regionA T_ok ?_ ?_); kernel_rfl) | ((with_reducible refine aw_drawnA T_ok ?_ ?_ ?_ ?_); kernel_rfl; kernel_rfl; (focus (decide +kernel))) | ((with_reducible refine aw_drawnF T_ok ?_ ?_ ?_ ?_); kernel_rfl; kernel_rfl; (focus (decide +kernel))) | ((with_reducible apply callI_in T_ok Try.func26); (focus (dsimp only [Try.f26])); (focus rfl); (focus rfl); kernel_rfl; (focus exact of_decide_eq_true (by kernel_rfl)); (focus (first | exact hdB | kernel_rfl)); kernel_rfl; intro _) | ((with_reducible refine callK_intro (hV) (by with_unfolding_all rfl) ?_ ?_); kernel_rfl) | ((with_reducible refine callI_spec (hV) (by with_unfolding_all rfl) ?_ ?_ ?_); kernel_rfl; kernel_rfl) | (with_reducible refine aw_label ?_) | ((with_reducible refine aw_rfM ?_ ?_); kernel_rfl) | (with_reducible refine aw_skip ?_) | (with_reducible refine aw_exit ?_) | ((with_reducible refine aw_condM ?_ ?_); kernel_rfl) | (with_reducible refine aw_ret ?_)); simp only [↓avP, avQ, avR, forall_const, implies_true, reduceIte, Nat.reduceEqDiff, Nat.reduceAdd, Nat.reduceSub, Int.reduceToNat, Nat.reduceLeDiff, Nat.reduceLT, reduceCtorEq, Int.reduceEq, avS, intD_B, byD_B, lotD_B, fl_ex, snocI, ty_3, ty_26, ty_4, ty_25, ty_9, ty_24, ty_50, ty_22, ty_56, ty_54, ty_44, ty_72, issD_get, viewV, nmB, unT_shT, unT_app, setT_sha, setT_sh, lkT_sha, lkT_sh, lkB_setB, lkB_delB, hd]; try simp (disch := omega) only [av_w, av_t1, av_tp, Int.toNat_natCast]))
    rw [heB, hbR]
    exact ⟨Sub.nil _ _, Sub.refl _⟩
  have hd : (decide (s < 0) || decide (s ≥ f.senders)) = false := by
    rw [Bool.or_eq_false_iff, decide_eq_false_iff_not, decide_eq_false_iff_not]; omega
  have heB : errB f lines [] s = 0 := by rw [errB, if_neg (by simpa using he), if_neg (by omega)]
  by_cases hon : o < 0
  · have hd1 : decide (o < 0) = true := decide_eq_true hon
    have heL : errL f lines o s = 1 := by rw [errL, heB, if_neg (by decide), if_pos hon]
    have hbR : leastR f lines o s need = [] := by rw [leastR, heL, if_neg (by decide)]
    repeat' (first | (with_reducible refine aw_seq ?_) | ((with_reducible refine twoG_intro ?_ ?_) <;> intro h <;> first | contradiction | ((try simp only [h, avT]); (first | (guard_hyp h : true = true; clear h) | (guard_hyp h : false = false; clear h) | (revert h; intro _)))) | ((with_reducible refine two_intro ?_ ?_) <;> intro h <;> first | contradiction | ((first | (guard_hyp h : true = true; clear h) | (guard_hyp h : false = false; clear h) | (revert h; intro _)))) | ((with_reducible refine And.intro ?_ ?_); (focus (first | exact keyOk_str_ | omega | rfl | decide | grind))) | (with_reducible refine aw_block ?_) | (with_reducible refine aw_scope ?_) | ((first | ((with_reducible refine aw_regionA T_ok ?_ ?_); kernel_rfl) | ((with_reducible refine aw_drawnA T_ok ?_ ?_ ?_ ?_); kernel_rfl; kernel_rfl; (focus (decide +kernel))) | ((with_reducible refine aw_drawnF T_ok ?_ ?_ ?_ ?_); kernel_rfl; kernel_rfl; (focus (decide +kernel))) | ((with_reducible apply callI_in T_ok Try.func26); (focus (dsimp only [Try.f26])); (focus rfl); (focus rfl); kernel_rfl; (focus exact of_decide_eq_true (by kernel_rfl)); (focus (first | exact hdB | kernel_rfl)); kernel_rfl; intro _) | ((with_reducible refine callK_intro (hV) (by with_unfolding_all rfl) ?_ ?_); kernel_rfl) | ((with_reducible refine callI_spec (hV) (by with_unfolding_all rfl) ?_ ?_ ?_); kernel_rfl; kernel_rfl) | (with_reducible refine aw_label ?_) | ((with_reducible refine aw_rfM ?_ ?_); kernel_rfl) | (with_reducible refine aw_skip ?_) | (with_reducible refine aw_exit ?_) | ((with_reducible refine aw_condM ?_ ?_); kernel_rfl) | (with_reducible refine aw_ret ?_)); simp only [↓avP, avQ, avR, forall_const, implies_true, reduceIte, Nat.reduceEqDiff, Nat.reduceAdd, Nat.reduceSub, Int.reduceToNat, Nat.reduceLeDiff, Nat.reduceLT, reduceCtorEq, Int.reduceEq, avS, intD_B, byD_B, lotD_B, fl_ex, snocI, ty_3, ty_26, ty_4, ty_25, ty_9, ty_24, ty_50, ty_22, ty_56, ty_54, ty_44, ty_72, issD_get, viewV, nmB, unT_shT, unT_app, setT_sha, setT_sh, lkT_sha, lkT_sh, lkB_setB, lkB_delB, hd, hd1]; try simp (disch := omega) only [av_w, av_t1, av_tp, Int.toNat_natCast]))
    rw [heL, hbR]
    exact ⟨Sub.nil _ _, Sub.refl _⟩
  have hd1 : decide (o < 0) = false := decide_eq_false hon
  by_cases hom : 12 < o
  · have hd2 : decide (o > 12) = true := decide_eq_true hom
    have heL : errL f lines o s = 2 := by rw [errL, heB, if_neg (by decide), if_neg hon, if_pos hom]
    have hbR : leastR f lines o s need = [] := by rw [leastR, heL, if_neg (by decide)]
    repeat' (first | (with_reducible refine aw_seq ?_) | ((with_reducible refine twoG_intro ?_ ?_) <;> intro h <;> first | contradiction | ((try simp only [h, avT]); (first | (guard_hyp h : true = true; clear h) | (guard_hyp h : false = false; clear h) | (revert h; intro _)))) | ((with_reducible refine two_intro ?_ ?_) <;> intro h <;> first | contradiction | ((first | (guard_hyp h : true = true; clear h) | (guard_hyp h : false = false; clear h) | (revert h; intro _)))) | ((with_reducible refine And.intro ?_ ?_); (focus (first | exact keyOk_str_ | omega | rfl | decide | grind))) | (with_reducible refine aw_block ?_) | (with_reducible refine aw_scope ?_) | ((first | ((with_reducible refine aw_regionA T_ok ?_ ?_); kernel_rfl) | ((with_reducible refine aw_drawnA T_ok ?_ ?_ ?_ ?_); kernel_rfl; kernel_rfl; (focus (decide +kernel))) | ((with_reducible refine aw_drawnF T_ok ?_ ?_ ?_ ?_); kernel_rfl; kernel_rfl; (focus (decide +kernel))) | ((with_reducible apply callI_in T_ok Try.func26); (focus (dsimp only [Try.f26])); (focus rfl); (focus rfl); kernel_rfl; (focus exact of_decide_eq_true (by kernel_rfl)); (focus (first | exact hdB | kernel_rfl)); kernel_rfl; intro _) | ((with_reducible refine callK_intro (hV) (by with_unfolding_all rfl) ?_ ?_); kernel_rfl) | ((with_reducible refine callI_spec (hV) (by with_unfolding_all rfl) ?_ ?_ ?_); kernel_rfl; kernel_rfl) | (with_reducible refine aw_label ?_) | ((with_reducible refine aw_rfM ?_ ?_); kernel_rfl) | (with_reducible refine aw_skip ?_) | (with_reducible refine aw_exit ?_) | ((with_reducible refine aw_condM ?_ ?_); kernel_rfl) | (with_reducible refine aw_ret ?_)); simp only [↓avP, avQ, avR, forall_const, implies_true, reduceIte, Nat.reduceEqDiff, Nat.reduceAdd, Nat.reduceSub, Int.reduceToNat, Nat.reduceLeDiff, Nat.reduceLT, reduceCtorEq, Int.reduceEq, avS, intD_B, byD_B, lotD_B, fl_ex, snocI, ty_3, ty_26, ty_4, ty_25, ty_9, ty_24, ty_50, ty_22, ty_56, ty_54, ty_44, ty_72, issD_get, viewV, nmB, unT_shT, unT_app, setT_sha, setT_sh, lkT_sha, lkT_sh, lkB_setB, lkB_delB, hd, hd1, hd2]; try simp (disch := omega) only [av_w, av_t1, av_tp, Int.toNat_natCast]))
    rw [heL, hbR]
    exact ⟨Sub.nil _ _, Sub.refl _⟩
  have hd2 : decide (o > 12) = false := decide_eq_false hom
  obtain ⟨off, rfl⟩ : ∃ off : Nat, o = off := ⟨o.toNat, by omega⟩
  have heL : errL f lines off s = 0 := by rw [errL, heB, if_neg (by decide), if_neg hon, if_neg hom]
  repeat' (first | (with_reducible refine aw_seq ?_) | ((with_reducible refine twoG_intro ?_ ?_) <;> intro h <;> first | contradiction | ((try simp only [h, avT]); (first | (guard_hyp h : true = true; clear h) | (guard_hyp h : false = false; clear h) | (revert h; intro _)))) | ((with_reducible refine two_intro ?_ ?_) <;> intro h <;> first | contradiction | ((first | (guard_hyp h : true = true; clear h) | (guard_hyp h : false = false; clear h) | (revert h; intro _)))) | ((with_reducible refine And.intro ?_ ?_); (focus (first | exact keyOk_str_ | omega | rfl | decide | grind))) | (with_reducible refine aw_block ?_) | (with_reducible refine aw_scope ?_) | ((first | ((with_reducible refine aw_regionA T_ok ?_ ?_); kernel_rfl) | ((with_reducible refine aw_drawnA T_ok ?_ ?_ ?_ ?_); kernel_rfl; kernel_rfl; (focus (decide +kernel))) | ((with_reducible refine aw_drawnF T_ok ?_ ?_ ?_ ?_); kernel_rfl; kernel_rfl; (focus (decide +kernel))) | ((with_reducible apply callI_in T_ok Try.func26); (focus (dsimp only [Try.f26])); (focus rfl); (focus rfl); kernel_rfl; (focus exact of_decide_eq_true (by kernel_rfl)); (focus (first | exact hdB | kernel_rfl)); kernel_rfl; intro _) | ((with_reducible refine callK_intro (hV) (by with_unfolding_all rfl) ?_ ?_); kernel_rfl) | ((with_reducible refine callI_spec (hV) (by with_unfolding_all rfl) ?_ ?_ ?_); kernel_rfl; kernel_rfl) | ((with_reducible apply callI_in T_ok Try.func30); (focus (dsimp only [Try.f30])); (focus rfl); (focus rfl); kernel_rfl; (focus exact of_decide_eq_true (by kernel_rfl)); (focus (first | exact hdB | kernel_rfl)); kernel_rfl; intro _) | (with_reducible refine aw_label ?_) | ((with_reducible refine aw_rfM ?_ ?_); kernel_rfl) | (with_reducible refine aw_skip ?_) | (with_reducible refine aw_exit ?_) | ((with_reducible refine aw_condM ?_ ?_); kernel_rfl) | (with_reducible refine aw_ret ?_)); simp only [↓avP, avQ, avR, forall_const, implies_true, reduceIte, Nat.reduceEqDiff, Nat.reduceAdd, Nat.reduceSub, Int.reduceToNat, Nat.reduceLeDiff, Nat.reduceLT, reduceCtorEq, Int.reduceEq, avS, intD_B, byD_B, lotD_B, fl_ex, snocI, ty_3, ty_26, ty_4, ty_25, ty_9, ty_24, ty_50, ty_22, ty_56, ty_54, ty_44, ty_72, issD_get, viewV, nmB, unT_shT, unT_app, setT_sha, setT_sh, lkT_sha, lkT_sh, lkB_setB, lkB_delB, hd, hd1, hd2]; try simp (disch := omega) only [av_w, av_t1, av_tp, Int.toNat_natCast]))
  apply rfI_in Try.func52
  · dsimp only [Try.f52]
  · dsimp only [Base.inn, Base.inr]
  · rfl
  · rfl
  · kernel_rfl
  · exact of_decide_eq_true (by kernel_rfl)
  · kernel_rfl
  intro aL L hLp hLa hLb hLt
  refine aw_nilC 2 0 26 1 (dV (issD [])) rfl rfl ?_
  refine aw_frzD 9 (issD []) [] rfl rfl ?_
  simp only [frzS, frzM, frzK, frz1, frz2, frz_dV, List.map_cons, List.map_nil, setB, reduceIte, Nat.reduceEqDiff, inV, shT, List.cons_append, List.nil_append, Nat.reduceAdd, List.set_cons_zero, List.length_nil]
  have hX : (leastX f lines s need off L).Ok cap5 := by
    refine ⟨?_, ?_, ?_, ?_, fun B tm a tm' h ht => leastX_cx h ht, ?_, ?_, ?_⟩
    · rintro i st st' q q' ⟨M, z, h⟩ hs hq
      exact ⟨M, z, h.mono hs hq⟩
    · rintro i st q ⟨M, z, h⟩; exact ⟨_, h.b10⟩
    · rintro i st q ⟨M, z, h⟩; exact ⟨_, h.b7⟩
    · rintro i st q ⟨M, z, h⟩; exact ⟨_, h.b11⟩
    · show off ≤ 12; omega
    · intro i n c _ hc
      have hc : i.length + (n + 1) ≤ 100000 := hc
      have := stepL_len (fun x => brkB f lines x s need) i c
      show (stepL (fun x => brkB f lines x s need) i c).length + n ≤ 100000
      omega
    · exact least_yield ho he hs (by omega) (by rw [hLp, hLa, hLb]; rfl) hLt.1
  repeat' (first | (with_reducible refine aw_seq ?_) | ((with_reducible refine twoG_intro ?_ ?_) <;> intro h <;> first | contradiction | ((try simp only [h, avT]); (first | (guard_hyp h : true = true; clear h) | (guard_hyp h : false = false; clear h) | (revert h; intro _)))) | ((with_reducible refine two_intro ?_ ?_) <;> intro h <;> first | contradiction | ((first | (guard_hyp h : true = true; clear h) | (guard_hyp h : false = false; clear h) | (revert h; intro _)))) | ((with_reducible refine And.intro ?_ ?_); (focus (first | exact keyOk_str_ | omega | rfl | decide | grind))) | (with_reducible refine aw_block ?_) | (with_reducible refine aw_scope ?_) | ((first | ((with_reducible refine aw_regionA T_ok ?_ ?_); kernel_rfl) | ((with_reducible refine aw_drawnA T_ok ?_ ?_ ?_ ?_); kernel_rfl; kernel_rfl; (focus (decide +kernel))) | ((with_reducible refine aw_drawnF T_ok ?_ ?_ ?_ ?_); kernel_rfl; kernel_rfl; (focus (decide +kernel))) | (with_reducible refine aw_label ?_) | ((with_reducible refine aw_rfM ?_ ?_); kernel_rfl) | (with_reducible refine aw_skip ?_) | (with_reducible refine aw_exit ?_) | ((with_reducible refine aw_condM ?_ ?_); kernel_rfl) | (with_reducible refine aw_ret ?_)); simp only [↓avP, avQ, avR, forall_const, implies_true, reduceIte, Nat.reduceEqDiff, Nat.reduceAdd, Nat.reduceSub, Int.reduceToNat, Nat.reduceLeDiff, Nat.reduceLT, reduceCtorEq, Int.reduceEq, avS, intD_B, byD_B, lotD_B, fl_ex, snocI, ty_3, ty_26, ty_4, ty_25, ty_9, ty_24, ty_50, ty_22, ty_56, ty_54, ty_44, ty_72, issD_get, viewV, nmB, unT_shT, unT_app, setT_sha, setT_sh, lkT_sha, lkT_sh, lkB_setB, lkB_delB]; try simp (disch := omega) only [av_w, av_t1, av_tp, Int.toNat_natCast]))
  have hoff1 : off ≤ 12 := by omega
  refine aw_loopI (fun x : Nat × List (Nat × Blk) × Nat => ⟨(0, .yl 8) :: (1, .ptr 7 0) :: (3, .ptr 11 0) :: (7, vI ((off : Int) + 1)) :: (8, vI x.1) :: [(25, .ptr 1 0), (26, .ptr 2 0), (27, vI 0), (28, .ptr 6 0)], x.2.1, x.2.2⟩)
    (fun x => x.1 ≤ off + 1 ∧ (leastX f lines s need off L).Inv ((leastX f lines s need off L).fold [] (allL off x.1)) x.2.1 x.2.2) (fun x => off + 1 - x.1)
    (0, [(11, .cells 72 [.fn 53 [.ptr 10 0, .ptr 7 0, .ptr 11 0]]), (10, .cells 44 [.yl 8]), (9, .tok 26 1 0), (8, .loop L .ready none), (7, .cells 3 [vI off]), (6, .cells 56 (viewV f lines s 5)), (5, crowdM []), (2, .cells 25 [.ow 9 1 (issD []) []]), (1, .cells 3 [vI need])], 12) ⟨by omega, ?_⟩ (wk_less ?_) ?_
  · exact ⟨[], 9, ⟨fun k v h => (by cases h), Nat.le_refl 12, (by decide : 9 < 12 ∧ 9 ≠ 1 ∧ 9 ≠ 2 ∧ 9 ≠ 5 ∧ 9 ≠ 6 ∧ 9 ≠ 7 ∧ 9 ≠ 8 ∧ 9 ≠ 10 ∧ 9 ≠ 11), rfl, rfl, rfl, rfl, rfl, rfl, rfl, rfl, rfl, fun y hy => (by cases hy)⟩⟩
  · refine LessS.mk ?_ ?_ ?_
    · dsimp only
      repeat (refine lessT_cons ?_ ?_; (focus (first | rfl | (simp only [lkT_c, lkT_n, lkT_sha, lkT_sh, lkB_c, lkB_n, lkB_setB, if_true, if_false, reduceIte, Nat.reduceEqDiff, Nat.reduceLT, nmB, crowdM, mpV, List.map_nil, List.map_cons] <;> rfl))))
      first | exact lessT_nil _ | exact lessT_refl _ | (refine lessT_tail ?_; (repeat (refine tailT_cons ?_ ?_; (focus decide))); first | exact tailT_refl _ _ | exact tailT_app rfl)
    · dsimp only
      repeat (first | exact lessB_refl _ | exact lessB_nil _ | (refine lessB_setSelf ?_; (focus assumption)) | (refine lessB_sameE ?_ ?_; (focus (first | rfl | (simp only [lkT_c, lkT_n, lkT_sha, lkT_sh, lkB_c, lkB_n, lkB_setB, if_true, if_false, reduceIte, Nat.reduceEqDiff, Nat.reduceLT, nmB, crowdM, mpV, List.map_nil, List.map_cons] <;> rfl)))) | (refine lessB_skip ?_ ?_; (focus (first | (with_reducible assumption) | (simp only [lkT_c, lkT_n, lkT_sha, lkT_sh, lkB_c, lkB_n, lkB_setB, if_true, if_false, reduceIte, Nat.reduceEqDiff, Nat.reduceLT, nmB, crowdM, mpV, List.map_nil, List.map_cons] <;> rfl)))) | (refine lessB_cons ?_ ?_; (focus (first | (with_reducible assumption) | rfl | (simp only [lkT_c, lkT_n, lkT_sha, lkT_sh, lkB_c, lkB_n, lkB_setB, if_true, if_false, reduceIte, Nat.reduceEqDiff, Nat.reduceLT, nmB, crowdM, mpV, List.map_nil, List.map_cons] <;> rfl)))))
    · dsimp only; omega
  rintro ⟨k, s1, q1⟩ ⟨p1, p2⟩
  dsimp only at p1 p2 ⊢
  refine aw_fresh fun hfr1 => ?_
  obtain ⟨ty3, h3'⟩ := hX.cv _ s1 q1 p2
  have h3 : lkB s1 11 = some (.cells ty3 [.fn 53 [.ptr 10 0, .ptr 7 0, .ptr 11 0]]) := h3'
  rcases Nat.lt_or_ge k (off + 1) with hlt | hge
  · have hd : decide ((k : Int) < (off : Int) + 1) = true := decide_eq_true (by omega)
    have hIH := choose_call hX k [] (isCo.nil off)
    rw [List.length_nil, Nat.zero_add] at hIH
    repeat' (first | (with_reducible refine aw_seq ?_) | ((with_reducible refine twoG_intro ?_ ?_) <;> intro h <;> first | contradiction | ((try simp only [h, avT]); (first | (guard_hyp h : true = true; clear h) | (guard_hyp h : false = false; clear h) | (revert h; intro _)))) | ((with_reducible refine two_intro ?_ ?_) <;> intro h <;> first | contradiction | ((first | (guard_hyp h : true = true; clear h) | (guard_hyp h : false = false; clear h) | (revert h; intro _)))) | ((with_reducible refine And.intro ?_ ?_); (focus (first | exact keyOk_str_ | omega | rfl | decide | grind))) | (with_reducible refine aw_block ?_) | (with_reducible refine aw_scope ?_) | ((first | ((with_reducible refine aw_regionA T_ok ?_ ?_); kernel_rfl) | ((with_reducible refine aw_drawnA T_ok ?_ ?_ ?_ ?_); kernel_rfl; kernel_rfl; (focus (decide +kernel))) | ((with_reducible refine aw_drawnF T_ok ?_ ?_ ?_ ?_); kernel_rfl; kernel_rfl; (focus (decide +kernel))) | (with_reducible refine aw_label ?_) | ((with_reducible refine aw_rfM ?_ ?_); kernel_rfl) | (with_reducible refine aw_skip ?_) | (with_reducible refine aw_exit ?_) | ((with_reducible refine aw_condM ?_ ?_); kernel_rfl) | (with_reducible refine aw_ret ?_)); simp only [↓avP, avQ, avR, forall_const, implies_true, reduceIte, Nat.reduceEqDiff, Nat.reduceAdd, Nat.reduceSub, Int.reduceToNat, Nat.reduceLeDiff, Nat.reduceLT, reduceCtorEq, Int.reduceEq, avS, intD_B, byD_B, lotD_B, fl_ex, snocI, ty_3, ty_26, ty_4, ty_25, ty_9, ty_24, ty_50, ty_22, ty_56, ty_54, ty_44, ty_72, issD_get, viewV, nmB, unT_shT, unT_app, setT_sha, setT_sh, lkT_sha, lkT_sh, lkB_setB, lkB_delB, h3, hd]; try simp (disch := omega) only [av_w, av_t1, av_tp, Int.toNat_natCast]))
    refine callI_nilA 3 1 (dV (zD (.int .i64 0))) ?_
    dsimp only
    have hcap : cap5 ((leastX f lines s need off L).fold [] (allL off k)) (0 + (chL off k []).length) := by
      have h1 := keepL_len (fun x => brkB f lines x s need) (allL off k) []
      have h2 := allL_len (off := off) (n := k + 1) hoff1 (by omega)
      rw [allL_succ, List.length_append] at h2
      rw [List.length_nil] at h1
      show (keepL (fun x => brkB f lines x s need) [] (allL off k)).length + (0 + (chL off k []).length) ≤ 100000
      omega
    refine hIH _ _ _ (q1 + 1) q1 0 _ _ _ rfl ⟨0, rfl, fun t ht => ?_, fun t ht => ?_⟩ hcap (hX.mono _ s1 _ q1 _ p2 ?_ (Nat.le_succ _)) (if_pos rfl) fun st' q' hI' hP => ?_
    · rw [hLt.2 t ht, Nat.zero_add]; rfl
    · by_cases e1 : t = 9
      · subst e1; left; rfl
      by_cases e2 : t = 10
      · subst e2; left; rfl
      by_cases e3 : t = 12
      · subst e3; left; rfl
      right
      show lkT tmLs t = .any
      simp [tmLs, lkT, e1, e2, e3]
    · intro m x hx hm
      have hlt : m < q1 := Nat.lt_of_not_le fun h => by rw [hfr1 m h] at hm; cases hm
      rw [lkB, if_neg (by omega)]
      exact hm
    · have hI2 : (leastX f lines s need off L).Inv ((leastX f lines s need off L).fold [] (allL off (k + 1))) st' q' := by
        rw [allL_succ, Chs.fold_app]; exact hI'
      simp only [↓avP, avQ, avR, forall_const, implies_true, reduceIte, Nat.reduceEqDiff, Nat.reduceAdd, Nat.reduceSub, Int.reduceToNat, Nat.reduceLeDiff, Nat.reduceLT, reduceCtorEq, Int.reduceEq, avS, intD_B, byD_B, lotD_B, fl_ex, snocI, ty_3, ty_26, ty_4, ty_25, ty_9, ty_24, ty_50, ty_22, ty_56, ty_54, ty_44, ty_72, issD_get, viewV, nmB, unT_shT, unT_app, setT_sha, setT_sh, lkT_sha, lkT_sh, lkB_setB, lkB_delB]
      repeat' (first | (with_reducible refine aw_seq ?_) | ((with_reducible refine twoG_intro ?_ ?_) <;> intro h <;> first | contradiction | ((try simp only [h, avT]); (first | (guard_hyp h : true = true; clear h) | (guard_hyp h : false = false; clear h) | (revert h; intro _)))) | ((with_reducible refine two_intro ?_ ?_) <;> intro h <;> first | contradiction | ((first | (guard_hyp h : true = true; clear h) | (guard_hyp h : false = false; clear h) | (revert h; intro _)))) | ((with_reducible refine And.intro ?_ ?_); (focus (first | exact keyOk_str_ | omega | rfl | decide | grind))) | (with_reducible refine aw_block ?_) | (with_reducible refine aw_scope ?_) | ((first | ((with_reducible refine aw_regionA T_ok ?_ ?_); kernel_rfl) | ((with_reducible refine aw_drawnA T_ok ?_ ?_ ?_ ?_); kernel_rfl; kernel_rfl; (focus (decide +kernel))) | ((with_reducible refine aw_drawnF T_ok ?_ ?_ ?_ ?_); kernel_rfl; kernel_rfl; (focus (decide +kernel))) | (with_reducible refine aw_label ?_) | ((with_reducible refine aw_rfM ?_ ?_); kernel_rfl) | (with_reducible refine aw_skip ?_) | (with_reducible refine aw_exit ?_) | ((with_reducible refine aw_condM ?_ ?_); kernel_rfl) | (with_reducible refine aw_ret ?_)); simp only [↓avP, avQ, avR, forall_const, implies_true, reduceIte, Nat.reduceEqDiff, Nat.reduceAdd, Nat.reduceSub, Int.reduceToNat, Nat.reduceLeDiff, Nat.reduceLT, reduceCtorEq, Int.reduceEq, avS, intD_B, byD_B, lotD_B, fl_ex, snocI, ty_3, ty_26, ty_4, ty_25, ty_9, ty_24, ty_50, ty_22, ty_56, ty_54, ty_44, ty_72, issD_get, viewV, nmB, unT_shT, unT_app, setT_sha, setT_sh, lkT_sha, lkT_sh, lkB_setB, lkB_delB]; try simp (disch := omega) only [av_w, av_t1, av_tp, Int.toNat_natCast]))
      refine ⟨(k + 1, st', q'), ⟨by dsimp only; omega, hI2⟩, by dsimp only; omega, wk_less ?_⟩
      refine LessS.mk ?_ ?_ ?_
      · dsimp only
        repeat (refine lessT_cons ?_ ?_; (focus (first | rfl | (simp only [lkT_c, lkT_n, lkT_sha, lkT_sh, lkB_c, lkB_n, lkB_setB, if_true, if_false, reduceIte, Nat.reduceEqDiff, Nat.reduceLT, nmB, Int.natCast_add] <;> rfl))))
        first | exact lessT_nil _ | exact lessT_refl _ | (refine lessT_tail ?_; (repeat (refine tailT_cons ?_ ?_; (focus decide))); first | exact tailT_refl _ _ | exact tailT_app rfl)
      · dsimp only
        repeat (first | exact lessB_refl _ | exact lessB_nil _ | (refine lessB_setSelf ?_; (focus assumption)) | (refine lessB_sameE ?_ ?_; (focus (first | rfl | (simp only [lkT_c, lkT_n, lkT_sha, lkT_sh, lkB_c, lkB_n, lkB_setB, if_true, if_false, reduceIte, Nat.reduceEqDiff, Nat.reduceLT, nmB, Int.natCast_add] <;> rfl)))) | (refine lessB_skip ?_ ?_; (focus (first | (with_reducible assumption) | (simp only [lkT_c, lkT_n, lkT_sha, lkT_sh, lkB_c, lkB_n, lkB_setB, if_true, if_false, reduceIte, Nat.reduceEqDiff, Nat.reduceLT, nmB, Int.natCast_add] <;> rfl)))) | (refine lessB_cons ?_ ?_; (focus (first | (with_reducible assumption) | rfl | (simp only [lkT_c, lkT_n, lkT_sha, lkT_sh, lkB_c, lkB_n, lkB_setB, if_true, if_false, reduceIte, Nat.reduceEqDiff, Nat.reduceLT, nmB, Int.natCast_add] <;> rfl)))))
      · dsimp only; omega
  · obtain rfl : k = off + 1 := by omega
    obtain ⟨M, z, hI⟩ := p2
    have hd : decide (((off + 1 : Nat) : Int) < (off : Int) + 1) = false := decide_eq_false (by omega)
    have h8 := hI.b8
    have h2 := hI.b2
    have hz := hI.zz
    repeat' (first | (with_reducible refine aw_seq ?_) | ((with_reducible refine twoG_intro ?_ ?_) <;> intro h <;> first | contradiction | ((try simp only [h, avT]); (first | (guard_hyp h : true = true; clear h) | (guard_hyp h : false = false; clear h) | (revert h; intro _)))) | ((with_reducible refine two_intro ?_ ?_) <;> intro h <;> first | contradiction | ((first | (guard_hyp h : true = true; clear h) | (guard_hyp h : false = false; clear h) | (revert h; intro _)))) | ((with_reducible refine And.intro ?_ ?_); (focus (first | exact keyOk_str_ | omega | rfl | decide | grind))) | (with_reducible refine aw_block ?_) | (with_reducible refine aw_scope ?_) | ((first | ((with_reducible refine aw_regionA T_ok ?_ ?_); kernel_rfl) | ((with_reducible refine aw_drawnA T_ok ?_ ?_ ?_ ?_); kernel_rfl; kernel_rfl; (focus (decide +kernel))) | ((with_reducible refine aw_drawnF T_ok ?_ ?_ ?_ ?_); kernel_rfl; kernel_rfl; (focus (decide +kernel))) | (with_reducible refine aw_label ?_) | ((with_reducible refine aw_rfM ?_ ?_); kernel_rfl) | (with_reducible refine aw_skip ?_) | (with_reducible refine aw_exit ?_) | ((with_reducible refine aw_condM ?_ ?_); kernel_rfl) | (with_reducible refine aw_ret ?_)); simp only [↓avP, avQ, avR, forall_const, implies_true, reduceIte, Nat.reduceEqDiff, Nat.reduceAdd, Nat.reduceSub, Int.reduceToNat, Nat.reduceLeDiff, Nat.reduceLT, reduceCtorEq, Int.reduceEq, avS, intD_B, byD_B, lotD_B, fl_ex, snocI, ty_3, ty_26, ty_4, ty_25, ty_9, ty_24, ty_50, ty_22, ty_56, ty_54, ty_44, ty_72, issD_get, viewV, nmB, unT_shT, unT_app, setT_sha, setT_sh, lkT_sha, lkT_sh, lkB_setB, lkB_delB, h8, h2, hd]; try simp (disch := omega) only [av_w, av_t1, av_tp, Int.toNat_natCast]))
    have hR : leastR f lines (off : Int) s need = (leastX f lines s need off L).fold [] (allL off (off + 1)) := by
      rw [leastR, if_pos heL, Int.toNat_natCast]; rfl
    rw [hR, heL]
    exact ⟨Sub.refl _, Sub.refl _⟩
end Go.Proofs.Ytlnkmaejiceloaa

