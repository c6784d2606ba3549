import Derived.Test.YtlnkmaejiceloaaHN6
import Derived.Test.YtlnkmaejiceloaaHN2
namespace Go.Proofs.Ytlnkmaejiceloaa
set_option linter.unusedSimpArgs false
set_option linter.unusedVariables false
open Go.RowKit
abbrev issD (x : List Int) : List D := [.sl 1 (intD 0) (x.map intD)]
abbrev aIss (l : List (List Int)) : A := .one (.sl 1 (issD []) (l.map issD))
abbrev vIss (l : List (List Int)) : V := .d (.sl 1 (issD []) (l.map issD))
set_option maxRecDepth 100000
set_option maxHeartbeats 4000000
theorem issD_get (l : List (List Int)) (k : Nat) : (l.map issD).getD k (issD []) = issD (l.getD k []) := by
  rw [List.getD, List.getD, List.getElem?_map]
  cases l[k]? <;> rfl
theorem has_all (l : List (List Int)) (P : List Int → Bool) : ((List.range l.length).all fun k => P (l.getD k [])) = l.all P := by
  rw [Bool.eq_iff_iff, List.all_eq_true, List.all_eq_true]
  constructor
  · intro h x hx
    obtain ⟨i, hi, rfl⟩ := List.getElem_of_mem hx
    have := h i (by simpa using hi)
    simpa [List.getD, hi] using this
  · intro h i hi
    have hi : i < l.length := by simpa using hi
    have : l.getD i [] = l[i] := by simp [List.getD, hi]
    rw [this]
    exact h _ (by simp)
theorem qcoal_spec0 (l : List Int) (hl : l.length ≤ 140737488351232) : Spec Try.prog 20 [aIs l] (.r1 (aB (((List.range (l.length)).all fun k => !(!officeB (l.getD k 0) || decide ((k : Int) > 0) && decide (l.getD k 0 ≤ l.getD (k - 1) 0)))))) := by
  refine spec_of T_ok Try.func20 (by dsimp only [Try.f20]) rfl rfl (by simp) fun w F => ?_
  obtain ⟨Pk, hPk⟩ : ∃ Pk : Nat → Bool, Pk = fun k => !(!officeB (l.getD k 0) || decide ((k : Int) > 0) && decide (l.getD k 0 ≤ l.getD (k - 1) 0)) := ⟨_, rfl⟩
  rw [← hPk]
  obtain ⟨R, hR⟩ : ∃ R : Bool, R = ((List.range (l.length)).all Pk) := ⟨_, rfl⟩
  rw [← hR]
  repeat' (first | (with_reducible refine aw_seq ?_) | ((with_reducible refine twoG_intro ?_ ?_) <;> intro hTw <;> first | (exact Bool.noConfusion hTw) | ((try simp only [hTw, avT]); (first | (guard_hyp hTw : true = true; clear hTw) | (guard_hyp hTw : false = false; clear hTw) | (revert hTw; intro _)))) | ((with_reducible refine two_intro ?_ ?_) <;> intro hTw <;> first | (exact Bool.noConfusion hTw) | ((first | (guard_hyp hTw : true = true; clear hTw) | (guard_hyp hTw : false = false; clear hTw) | (revert hTw; intro _)))) | ((with_reducible refine And.intro ?_ ?_); (focus (first | omega | rfl | decide | grind))) | (with_reducible refine aw_block ?_) | (with_reducible refine aw_scope ?_) | ((first | ((with_reducible refine aw_regionA T_ok ?_ ?_); (focus kernel_rfl)) | ((with_reducible refine aw_drawnA T_ok ?_ ?_ ?_ ?_); (focus kernel_rfl); (focus kernel_rfl); (focus (decide +kernel))) | ((with_reducible refine aw_drawnF T_ok ?_ ?_ ?_ ?_); (focus kernel_rfl); (focus kernel_rfl); (focus (decide +kernel))) | (with_reducible refine aw_label ?_) | ((with_reducible refine aw_rfM ?_ ?_); (focus kernel_rfl)) | (with_reducible refine aw_skip ?_) | (with_reducible refine aw_exit ?_) | ((with_reducible refine aw_condM ?_ ?_); (focus kernel_rfl)) | (with_reducible refine aw_ret ?_)); simp only [↓avP, avQ, if_true, if_false, forall_const, beq_self_eq_true, eq_self, ne_eq, implies_true, reduceIte, Nat.reduceEqDiff, Nat.reduceAdd, Nat.reduceSub, Int.reduceToNat, Nat.reduceLeDiff, Nat.reduceLT, reduceCtorEq, Int.reduceEq, retQ, retL, resV, RetV, RetOk, SubL, intD_B, lotD_B, flowD_B, snocI, ty_3, ty_26, ty_4, ty_24, ty_50, ty_22, ty_25, ← List.map_take, issD_get]; try simp (disch := omega) only [av_w, av_t1, av_tp, Int.toNat_natCast]))
  refine aw_loopI (fun k : Nat => ⟨[(0, vIs l), (3, vI k)], [], 0⟩) (fun k => k ≤ l.length ∧ ∀ i, i < k → Pk i = true) (fun k => l.length - k) 0 ⟨Nat.zero_le _, fun i hi => absurd hi (Nat.not_lt_zero i)⟩ (wk_of [] rfl rfl ?_ ?_) ?_
  · simp only [wkT, wkB, wkB1, subV, subVs, subD, subB, lkN_n, lkN_c, lkT_n, lkT_c, lkB_n, lkB_c, if_true, if_false, reduceIte, Nat.reduceEqDiff, true_and, and_true, and_self, inT, ofA]
    (repeat' (first | exact trivial | rfl | exact rfl | exact subVs_d _ _ | exact subVs_dm _ _ | exact subD_refl _ | refine And.intro ?_ ?_))
  · simp only [wkT, wkB, wkB1, subV, subVs, subD, subB, lkN_n, lkN_c, lkT_n, lkT_c, lkB_n, lkB_c, if_true, if_false, reduceIte, Nat.reduceEqDiff, true_and, and_true, and_self, inT, ofA]
    (repeat' (first | exact trivial | rfl | exact rfl | exact subVs_d _ _ | exact subVs_dm _ _ | exact subD_refl _ | refine And.intro ?_ ?_))
  rintro k ⟨hk, h0⟩
  rcases Nat.lt_or_ge k (l.length) with hlt | hge
  · have hd := ltd hlt
    cases hp : !officeB (l.getD k 0) || decide ((k : Int) > 0) && decide (l.getD k 0 ≤ l.getD (k - 1) 0) with
    | false =>
      repeat' (first | (with_reducible refine aw_seq ?_) | ((with_reducible refine twoG_intro ?_ ?_) <;> intro hTw <;> first | (exact Bool.noConfusion hTw) | ((try simp only [hTw, avT]); (first | (guard_hyp hTw : true = true; clear hTw) | (guard_hyp hTw : false = false; clear hTw) | (revert hTw; intro _)))) | ((with_reducible refine two_intro ?_ ?_) <;> intro hTw <;> first | (exact Bool.noConfusion hTw) | ((first | (guard_hyp hTw : true = true; clear hTw) | (guard_hyp hTw : false = false; clear hTw) | (revert hTw; intro _)))) | ((with_reducible refine And.intro ?_ ?_); (focus (first | omega | rfl | decide | grind))) | (with_reducible refine aw_block ?_) | (with_reducible refine aw_scope ?_) | ((first | ((with_reducible refine aw_regionA T_ok ?_ ?_); (focus kernel_rfl)) | ((with_reducible refine aw_drawnA T_ok ?_ ?_ ?_ ?_); (focus kernel_rfl); (focus kernel_rfl); (focus (decide +kernel))) | ((with_reducible refine aw_drawnF T_ok ?_ ?_ ?_ ?_); (focus kernel_rfl); (focus kernel_rfl); (focus (decide +kernel))) | ((with_reducible refine callK_intro (qoffice_spec (l.getD k 0)) (by with_unfolding_all rfl) ?_ ?_); (focus kernel_rfl)) | ((with_reducible refine callI_spec (qoffice_spec (l.getD k 0)) (by with_unfolding_all rfl) ?_ ?_ ?_); (focus kernel_rfl); (focus kernel_rfl)) | (with_reducible refine aw_label ?_) | ((with_reducible refine aw_rfM ?_ ?_); (focus kernel_rfl)) | (with_reducible refine aw_skip ?_) | (with_reducible refine aw_exit ?_) | ((with_reducible refine aw_condM ?_ ?_); (focus kernel_rfl)) | (with_reducible refine aw_ret ?_)); simp only [↓avP, avQ, if_true, if_false, forall_const, beq_self_eq_true, eq_self, ne_eq, implies_true, reduceIte, Nat.reduceEqDiff, Nat.reduceAdd, Nat.reduceSub, Int.reduceToNat, Nat.reduceLeDiff, Nat.reduceLT, reduceCtorEq, Int.reduceEq, retQ, retL, resV, RetV, RetOk, SubL, intD_B, lotD_B, flowD_B, snocI, ty_3, ty_26, ty_4, ty_24, ty_50, ty_22, ty_25, ← List.map_take, issD_get, hd, hp]; try simp (disch := omega) only [av_w, av_t1, av_tp, Int.toNat_natCast]))
      refine ⟨k + 1, ⟨by omega, fun i hi => by rcases Nat.lt_succ_iff_lt_or_eq.1 hi with h | rfl; exact h0 i h; rw [hPk]; dsimp only; rw [hp]; rfl⟩, by dsimp only; omega, wk_of [] rfl rfl ?_ ?_⟩
      · simp only [wkT, wkB, wkB1, subV, subVs, subD, subB, lkN_n, lkN_c, lkT_n, lkT_c, lkB_n, lkB_c, if_true, if_false, reduceIte, Nat.reduceEqDiff, true_and, and_true, and_self, inT, ofA]
        (repeat' (first | exact trivial | rfl | exact rfl | exact subVs_d _ _ | exact subVs_dm _ _ | exact subD_refl _ | refine And.intro ?_ ?_))
      · simp only [wkT, wkB, wkB1, subV, subVs, subD, subB, lkN_n, lkN_c, lkT_n, lkT_c, lkB_n, lkB_c, if_true, if_false, reduceIte, Nat.reduceEqDiff, true_and, and_true, and_self, inT, ofA]
        (repeat' (first | exact trivial | rfl | exact rfl | exact subVs_d _ _ | exact subVs_dm _ _ | exact subD_refl _ | refine And.intro ?_ ?_))
    | true =>
      repeat' (first | (with_reducible refine aw_seq ?_) | ((with_reducible refine twoG_intro ?_ ?_) <;> intro hTw <;> first | (exact Bool.noConfusion hTw) | ((try simp only [hTw, avT]); (first | (guard_hyp hTw : true = true; clear hTw) | (guard_hyp hTw : false = false; clear hTw) | (revert hTw; intro _)))) | ((with_reducible refine two_intro ?_ ?_) <;> intro hTw <;> first | (exact Bool.noConfusion hTw) | ((first | (guard_hyp hTw : true = true; clear hTw) | (guard_hyp hTw : false = false; clear hTw) | (revert hTw; intro _)))) | ((with_reducible refine And.intro ?_ ?_); (focus (first | omega | rfl | decide | grind))) | (with_reducible refine aw_block ?_) | (with_reducible refine aw_scope ?_) | ((first | ((with_reducible refine aw_regionA T_ok ?_ ?_); (focus kernel_rfl)) | ((with_reducible refine aw_drawnA T_ok ?_ ?_ ?_ ?_); (focus kernel_rfl); (focus kernel_rfl); (focus (decide +kernel))) | ((with_reducible refine aw_drawnF T_ok ?_ ?_ ?_ ?_); (focus kernel_rfl); (focus kernel_rfl); (focus (decide +kernel))) | ((with_reducible refine callK_intro (qoffice_spec (l.getD k 0)) (by with_unfolding_all rfl) ?_ ?_); (focus kernel_rfl)) | ((with_reducible refine callI_spec (qoffice_spec (l.getD k 0)) (by with_unfolding_all rfl) ?_ ?_ ?_); (focus kernel_rfl); (focus kernel_rfl)) | (with_reducible refine aw_label ?_) | ((with_reducible refine aw_rfM ?_ ?_); (focus kernel_rfl)) | (with_reducible refine aw_skip ?_) | (with_reducible refine aw_exit ?_) | ((with_reducible refine aw_condM ?_ ?_); (focus kernel_rfl)) | (with_reducible refine aw_ret ?_)); simp only [↓avP, avQ, if_true, if_false, forall_const, beq_self_eq_true, eq_self, ne_eq, implies_true, reduceIte, Nat.reduceEqDiff, Nat.reduceAdd, Nat.reduceSub, Int.reduceToNat, Nat.reduceLeDiff, Nat.reduceLT, reduceCtorEq, Int.reduceEq, retQ, retL, resV, RetV, RetOk, SubL, intD_B, lotD_B, flowD_B, snocI, ty_3, ty_26, ty_4, ty_24, ty_50, ty_22, ty_25, ← List.map_take, issD_get, hd, hp]; try simp (disch := omega) only [av_w, av_t1, av_tp, Int.toNat_natCast]))
      have hF : (List.range (l.length)).all Pk = false := all_fail hlt (by rw [hPk]; dsimp only; rw [hp]; rfl)
      exact Sub.of_eq (congrArg aB (by simp [hR, hF]))
  · obtain rfl : k = l.length := by omega
    have hd := ged (Nat.le_refl (l.length))
    have hT : (List.range (l.length)).all Pk = true := all_done h0
    repeat' (first | (with_reducible refine aw_seq ?_) | ((with_reducible refine twoG_intro ?_ ?_) <;> intro hTw <;> first | (exact Bool.noConfusion hTw) | ((try simp only [hTw, avT]); (first | (guard_hyp hTw : true = true; clear hTw) | (guard_hyp hTw : false = false; clear hTw) | (revert hTw; intro _)))) | ((with_reducible refine two_intro ?_ ?_) <;> intro hTw <;> first | (exact Bool.noConfusion hTw) | ((first | (guard_hyp hTw : true = true; clear hTw) | (guard_hyp hTw : false = false; clear hTw) | (revert hTw; intro _)))) | ((with_reducible refine And.intro ?_ ?_); (focus (first | omega | rfl | decide | grind))) | (with_reducible refine aw_block ?_) | (with_reducible refine aw_scope ?_) | ((first | ((with_reducible refine aw_regionA T_ok ?_ ?_); (focus kernel_rfl)) | ((with_reducible refine aw_drawnA T_ok ?_ ?_ ?_ ?_); (focus kernel_rfl); (focus kernel_rfl); (focus (decide +kernel))) | ((with_reducible refine aw_drawnF T_ok ?_ ?_ ?_ ?_); (focus kernel_rfl); (focus kernel_rfl); (focus (decide +kernel))) | (with_reducible refine aw_label ?_) | ((with_reducible refine aw_rfM ?_ ?_); (focus kernel_rfl)) | (with_reducible refine aw_skip ?_) | (with_reducible refine aw_exit ?_) | ((with_reducible refine aw_condM ?_ ?_); (focus kernel_rfl)) | (with_reducible refine aw_ret ?_)); simp only [↓avP, avQ, if_true, if_false, forall_const, beq_self_eq_true, eq_self, ne_eq, implies_true, reduceIte, Nat.reduceEqDiff, Nat.reduceAdd, Nat.reduceSub, Int.reduceToNat, Nat.reduceLeDiff, Nat.reduceLT, reduceCtorEq, Int.reduceEq, retQ, retL, resV, RetV, RetOk, SubL, intD_B, lotD_B, flowD_B, snocI, ty_3, ty_26, ty_4, ty_24, ty_50, ty_22, ty_25, ← List.map_take, issD_get, hd]; try simp (disch := omega) only [av_w, av_t1, av_tp, Int.toNat_natCast]))
    exact Sub.of_eq (congrArg aB (by simp [hR, hT]))
def coalB (l : List Int) : Bool := (List.range l.length).all fun k => !(!officeB (l.getD k 0) || decide ((k : Int) > 0) && decide (l.getD k 0 ≤ l.getD (k - 1) 0))
theorem qcoal_spec (l : List Int) (hl : l.length ≤ 140737488351232) : Spec Try.prog 20 [aIs l] (.r1 (aB (coalB l))) := qcoal_spec0 l hl
def lineB (x : List Int) : Bool := decide (x.length ≠ 0) && diffB officeB x
def linesB (l : List (List Int)) (n : Nat) : Bool := l.all lineB && decide (l.length = n)
theorem qlines_spec (l : List (List Int)) (n : Nat) (hl : l.length ≤ 140737488351232) (hx : ∀ x ∈ l, x.length ≤ 140737488351232) : Spec Try.prog 38 [aIss l, aI n] (.r1 (aB (linesB l n))) := by
  refine spec_of T_ok Try.func38 (by dsimp only [Try.f38]) rfl rfl (by simp) fun w F => ?_
  obtain ⟨Pk, hPk⟩ : ∃ Pk : Nat → Bool, Pk = fun k => lineB (l.getD k []) := ⟨_, rfl⟩
  have hres : linesB l n = ((List.range l.length).all Pk && decide (l.length = n)) := by rw [linesB, hPk, has_all]
  repeat' (first | (with_reducible refine aw_seq ?_) | ((with_reducible refine twoG_intro ?_ ?_) <;> intro hTw <;> first | (exact Bool.noConfusion hTw) | ((try simp only [hTw, avT]); (first | (guard_hyp hTw : true = true; clear hTw) | (guard_hyp hTw : false = false; clear hTw) | (revert hTw; intro _)))) | ((with_reducible refine two_intro ?_ ?_) <;> intro hTw <;> first | (exact Bool.noConfusion hTw) | ((first | (guard_hyp hTw : true = true; clear hTw) | (guard_hyp hTw : false = false; clear hTw) | (revert hTw; intro _)))) | ((with_reducible refine And.intro ?_ ?_); (focus (first | omega | rfl | decide | grind))) | (with_reducible refine aw_block ?_) | (with_reducible refine aw_scope ?_) | ((first | ((with_reducible refine aw_regionA T_ok ?_ ?_); (focus kernel_rfl)) | ((with_reducible refine aw_drawnA T_ok ?_ ?_ ?_ ?_); (focus kernel_rfl); (focus kernel_rfl); (focus (decide +kernel))) | ((with_reducible refine aw_drawnF T_ok ?_ ?_ ?_ ?_); (focus kernel_rfl); (focus kernel_rfl); (focus (decide +kernel))) | (with_reducible refine aw_label ?_) | ((with_reducible refine aw_rfM ?_ ?_); (focus kernel_rfl)) | (with_reducible refine aw_skip ?_) | (with_reducible refine aw_exit ?_) | ((with_reducible refine aw_condM ?_ ?_); (focus kernel_rfl)) | (with_reducible refine aw_ret ?_)); simp only [↓avP, avQ, if_true, if_false, forall_const, beq_self_eq_true, eq_self, ne_eq, implies_true, reduceIte, Nat.reduceEqDiff, Nat.reduceAdd, Nat.reduceSub, Int.reduceToNat, Nat.reduceLeDiff, Nat.reduceLT, reduceCtorEq, Int.reduceEq, retQ, retL, resV, RetV, RetOk, SubL, intD_B, lotD_B, flowD_B, snocI, ty_3, ty_26, ty_4, ty_24, ty_50, ty_22, ty_25, ← List.map_take, issD_get]; try simp (disch := omega) only [av_w, av_t1, av_tp, Int.toNat_natCast]))
  refine aw_loopI (fun k : Nat => ⟨[(0, vIss l), (1, vI n), (5, vI k)], [], 0⟩) (fun k => k ≤ l.length ∧ ∀ i, i < k → Pk i = true) (fun k => l.length - k) 0 ⟨Nat.zero_le _, fun i hi => absurd hi (Nat.not_lt_zero i)⟩ (wk_of [] rfl rfl ?_ ?_) ?_
  · simp only [wkT, wkB, wkB1, subV, subVs, subD, subB, lkN_n, lkN_c, lkT_n, lkT_c, lkB_n, lkB_c, if_true, if_false, reduceIte, Nat.reduceEqDiff, true_and, and_true, and_self, inT, ofA]
    (repeat' (first | exact trivial | rfl | exact rfl | exact subVs_d _ _ | exact subVs_dm _ _ | exact subD_refl _ | refine And.intro ?_ ?_))
  · simp only [wkT, wkB, wkB1, subV, subVs, subD, subB, lkN_n, lkN_c, lkT_n, lkT_c, lkB_n, lkB_c, if_true, if_false, reduceIte, Nat.reduceEqDiff, true_and, and_true, and_self, inT, ofA]
    (repeat' (first | exact trivial | rfl | exact rfl | exact subVs_d _ _ | exact subVs_dm _ _ | exact subD_refl _ | refine And.intro ?_ ?_))
  rintro k ⟨hk, h0⟩
  rcases Nat.lt_or_ge k l.length with hlt | hge
  · have hd := ltd hlt
    obtain ⟨x, hxd⟩ : ∃ x, x = l.getD k [] := ⟨_, rfl⟩
    have hxl : x.length ≤ 140737488351232 := by
      rw [hxd]
      have : l.getD k [] = l[k] := by simp [List.getD, hlt]
      rw [this]; exact hx _ (by simp)
    have hPd : Pk k = lineB x := by rw [hPk, hxd]
    have hD := qdifferent_spec x hxl
    have hbad : Pk k = false → linesB l n = false := fun h => by rw [hres, all_fail hlt h, Bool.false_and]
    by_cases h1 : x.length = 0
    · have hd1 : ((x.length : Int) == 0) = true := by rw [h1]; rfl
      repeat' (first | (with_reducible refine aw_seq ?_) | ((with_reducible refine twoG_intro ?_ ?_) <;> intro hTw <;> first | (exact Bool.noConfusion hTw) | ((try simp only [hTw, avT]); (first | (guard_hyp hTw : true = true; clear hTw) | (guard_hyp hTw : false = false; clear hTw) | (revert hTw; intro _)))) | ((with_reducible refine two_intro ?_ ?_) <;> intro hTw <;> first | (exact Bool.noConfusion hTw) | ((first | (guard_hyp hTw : true = true; clear hTw) | (guard_hyp hTw : false = false; clear hTw) | (revert hTw; intro _)))) | ((with_reducible refine And.intro ?_ ?_); (focus (first | omega | rfl | decide | grind))) | (with_reducible refine aw_block ?_) | (with_reducible refine aw_scope ?_) | ((first | ((with_reducible refine aw_regionA T_ok ?_ ?_); (focus kernel_rfl)) | ((with_reducible refine aw_drawnA T_ok ?_ ?_ ?_ ?_); (focus kernel_rfl); (focus kernel_rfl); (focus (decide +kernel))) | ((with_reducible refine aw_drawnF T_ok ?_ ?_ ?_ ?_); (focus kernel_rfl); (focus kernel_rfl); (focus (decide +kernel))) | ((with_reducible refine callK_intro (hD) (by with_unfolding_all rfl) ?_ ?_); (focus kernel_rfl)) | ((with_reducible refine callI_spec (hD) (by with_unfolding_all rfl) ?_ ?_ ?_); (focus kernel_rfl); (focus kernel_rfl)) | (with_reducible refine aw_label ?_) | ((with_reducible refine aw_rfM ?_ ?_); (focus kernel_rfl)) | (with_reducible refine aw_skip ?_) | (with_reducible refine aw_exit ?_) | ((with_reducible refine aw_condM ?_ ?_); (focus kernel_rfl)) | (with_reducible refine aw_ret ?_)); simp only [↓avP, avQ, if_true, if_false, forall_const, beq_self_eq_true, eq_self, ne_eq, implies_true, reduceIte, Nat.reduceEqDiff, Nat.reduceAdd, Nat.reduceSub, Int.reduceToNat, Nat.reduceLeDiff, Nat.reduceLT, reduceCtorEq, Int.reduceEq, retQ, retL, resV, RetV, RetOk, SubL, intD_B, lotD_B, flowD_B, snocI, ty_3, ty_26, ty_4, ty_24, ty_50, ty_22, ty_25, ← List.map_take, issD_get, hd, ← hxd, hd1]; try simp (disch := omega) only [av_w, av_t1, av_tp, Int.toNat_natCast]))
      exact Sub.of_eq (congrArg aB (hbad (by rw [hPd, lineB, decide_eq_false (by omega), Bool.false_and])).symm)
    have hd1 : ((x.length : Int) == 0) = false := by simp; exact fun e => h1 (by rw [e]; rfl)
    by_cases h2 : x.Nodup
    rotate_left
    · have hd2 : decide x.Nodup = false := decide_eq_false h2
      repeat' (first | (with_reducible refine aw_seq ?_) | ((with_reducible refine twoG_intro ?_ ?_) <;> intro hTw <;> first | (exact Bool.noConfusion hTw) | ((try simp only [hTw, avT]); (first | (guard_hyp hTw : true = true; clear hTw) | (guard_hyp hTw : false = false; clear hTw) | (revert hTw; intro _)))) | ((with_reducible refine two_intro ?_ ?_) <;> intro hTw <;> first | (exact Bool.noConfusion hTw) | ((first | (guard_hyp hTw : true = true; clear hTw) | (guard_hyp hTw : false = false; clear hTw) | (revert hTw; intro _)))) | ((with_reducible refine And.intro ?_ ?_); (focus (first | omega | rfl | decide | grind))) | (with_reducible refine aw_block ?_) | (with_reducible refine aw_scope ?_) | ((first | ((with_reducible refine aw_regionA T_ok ?_ ?_); (focus kernel_rfl)) | ((with_reducible refine aw_drawnA T_ok ?_ ?_ ?_ ?_); (focus kernel_rfl); (focus kernel_rfl); (focus (decide +kernel))) | ((with_reducible refine aw_drawnF T_ok ?_ ?_ ?_ ?_); (focus kernel_rfl); (focus kernel_rfl); (focus (decide +kernel))) | ((with_reducible refine callK_intro (hD) (by with_unfolding_all rfl) ?_ ?_); (focus kernel_rfl)) | ((with_reducible refine callI_spec (hD) (by with_unfolding_all rfl) ?_ ?_ ?_); (focus kernel_rfl); (focus kernel_rfl)) | (with_reducible refine aw_label ?_) | ((with_reducible refine aw_rfM ?_ ?_); (focus kernel_rfl)) | (with_reducible refine aw_skip ?_) | (with_reducible refine aw_exit ?_) | ((with_reducible refine aw_condM ?_ ?_); (focus kernel_rfl)) | (with_reducible refine aw_ret ?_)); simp only [↓avP, avQ, if_true, if_false, forall_const, beq_self_eq_true, eq_self, ne_eq, implies_true, reduceIte, Nat.reduceEqDiff, Nat.reduceAdd, Nat.reduceSub, Int.reduceToNat, Nat.reduceLeDiff, Nat.reduceLT, reduceCtorEq, Int.reduceEq, retQ, retL, resV, RetV, RetOk, SubL, intD_B, lotD_B, flowD_B, snocI, ty_3, ty_26, ty_4, ty_24, ty_50, ty_22, ty_25, ← List.map_take, issD_get, hd, ← hxd, hd1, hd2]; try simp (disch := omega) only [av_w, av_t1, av_tp, Int.toNat_natCast]))
      exact Sub.of_eq (congrArg aB (hbad (by rw [hPd, lineB, diffB, hd2]; simp)).symm)
    have hd2 : decide x.Nodup = true := decide_eq_true h2
    have hPx : Pk k = x.all officeB := by rw [hPd, lineB, diffB, hd2, decide_eq_true h1]; simp
    rw [← range_all x officeB] at hPx
    repeat' (first | (with_reducible refine aw_seq ?_) | ((with_reducible refine twoG_intro ?_ ?_) <;> intro hTw <;> first | (exact Bool.noConfusion hTw) | ((try simp only [hTw, avT]); (first | (guard_hyp hTw : true = true; clear hTw) | (guard_hyp hTw : false = false; clear hTw) | (revert hTw; intro _)))) | ((with_reducible refine two_intro ?_ ?_) <;> intro hTw <;> first | (exact Bool.noConfusion hTw) | ((first | (guard_hyp hTw : true = true; clear hTw) | (guard_hyp hTw : false = false; clear hTw) | (revert hTw; intro _)))) | ((with_reducible refine And.intro ?_ ?_); (focus (first | omega | rfl | decide | grind))) | (with_reducible refine aw_block ?_) | (with_reducible refine aw_scope ?_) | ((first | ((with_reducible refine aw_regionA T_ok ?_ ?_); (focus kernel_rfl)) | ((with_reducible refine aw_drawnA T_ok ?_ ?_ ?_ ?_); (focus kernel_rfl); (focus kernel_rfl); (focus (decide +kernel))) | ((with_reducible refine aw_drawnF T_ok ?_ ?_ ?_ ?_); (focus kernel_rfl); (focus kernel_rfl); (focus (decide +kernel))) | ((with_reducible refine callK_intro (hD) (by with_unfolding_all rfl) ?_ ?_); (focus kernel_rfl)) | ((with_reducible refine callI_spec (hD) (by with_unfolding_all rfl) ?_ ?_ ?_); (focus kernel_rfl); (focus kernel_rfl)) | (with_reducible refine aw_label ?_) | ((with_reducible refine aw_rfM ?_ ?_); (focus kernel_rfl)) | (with_reducible refine aw_skip ?_) | (with_reducible refine aw_exit ?_) | ((with_reducible refine aw_condM ?_ ?_); (focus kernel_rfl)) | (with_reducible refine aw_ret ?_)); simp only [↓avP, avQ, if_true, if_false, forall_const, beq_self_eq_true, eq_self, ne_eq, implies_true, reduceIte, Nat.reduceEqDiff, Nat.reduceAdd, Nat.reduceSub, Int.reduceToNat, Nat.reduceLeDiff, Nat.reduceLT, reduceCtorEq, Int.reduceEq, retQ, retL, resV, RetV, RetOk, SubL, intD_B, lotD_B, flowD_B, snocI, ty_3, ty_26, ty_4, ty_24, ty_50, ty_22, ty_25, ← List.map_take, issD_get, hd, ← hxd, hd1, hd2]; try simp (disch := omega) only [av_w, av_t1, av_tp, Int.toNat_natCast]))
    refine aw_loopI (fun j : Nat => ⟨[(0, vIss l), (1, vI n), (5, vI k), (6, vI j)], [], 0⟩) (fun j => j ≤ x.length ∧ ∀ i, i < j → (fun i => officeB (x.getD i 0)) i = true) (fun j => x.length - j) 0 ⟨Nat.zero_le _, fun i hi => absurd hi (Nat.not_lt_zero i)⟩ (wk_of [] rfl rfl ?_ ?_) ?_
    · simp only [wkT, wkB, wkB1, subV, subVs, subD, subB, lkN_n, lkN_c, lkT_n, lkT_c, lkB_n, lkB_c, if_true, if_false, reduceIte, Nat.reduceEqDiff, true_and, and_true, and_self, inT, ofA]
      (repeat' (first | exact trivial | rfl | exact rfl | exact subVs_d _ _ | exact subVs_dm _ _ | exact subD_refl _ | refine And.intro ?_ ?_))
    · simp only [wkT, wkB, wkB1, subV, subVs, subD, subB, lkN_n, lkN_c, lkT_n, lkT_c, lkB_n, lkB_c, if_true, if_false, reduceIte, Nat.reduceEqDiff, true_and, and_true, and_self, inT, ofA]
      (repeat' (first | exact trivial | rfl | exact rfl | exact subVs_d _ _ | exact subVs_dm _ _ | exact subD_refl _ | refine And.intro ?_ ?_))
    rintro j ⟨hj, h0'⟩
    rcases Nat.lt_or_ge j x.length with hjlt | hjge
    · have hd3 := ltd hjlt
      cases hp : officeB (x.getD j 0) with
      | true =>
        repeat' (first | (with_reducible refine aw_seq ?_) | ((with_reducible refine twoG_intro ?_ ?_) <;> intro hTw <;> first | (exact Bool.noConfusion hTw) | ((try simp only [hTw, avT]); (first | (guard_hyp hTw : true = true; clear hTw) | (guard_hyp hTw : false = false; clear hTw) | (revert hTw; intro _)))) | ((with_reducible refine two_intro ?_ ?_) <;> intro hTw <;> first | (exact Bool.noConfusion hTw) | ((first | (guard_hyp hTw : true = true; clear hTw) | (guard_hyp hTw : false = false; clear hTw) | (revert hTw; intro _)))) | ((with_reducible refine And.intro ?_ ?_); (focus (first | omega | rfl | decide | grind))) | (with_reducible refine aw_block ?_) | (with_reducible refine aw_scope ?_) | ((first | ((with_reducible refine aw_regionA T_ok ?_ ?_); (focus kernel_rfl)) | ((with_reducible refine aw_drawnA T_ok ?_ ?_ ?_ ?_); (focus kernel_rfl); (focus kernel_rfl); (focus (decide +kernel))) | ((with_reducible refine aw_drawnF T_ok ?_ ?_ ?_ ?_); (focus kernel_rfl); (focus kernel_rfl); (focus (decide +kernel))) | ((with_reducible refine callK_intro (qoffice_spec (x.getD j 0)) (by with_unfolding_all rfl) ?_ ?_); (focus kernel_rfl)) | ((with_reducible refine callI_spec (qoffice_spec (x.getD j 0)) (by with_unfolding_all rfl) ?_ ?_ ?_); (focus kernel_rfl); (focus kernel_rfl)) | (with_reducible refine aw_label ?_) | ((with_reducible refine aw_rfM ?_ ?_); (focus kernel_rfl)) | (with_reducible refine aw_skip ?_) | (with_reducible refine aw_exit ?_) | ((with_reducible refine aw_condM ?_ ?_); (focus kernel_rfl)) | (with_reducible refine aw_ret ?_)); simp only [↓avP, avQ, if_true, if_false, forall_const, beq_self_eq_true, eq_self, ne_eq, implies_true, reduceIte, Nat.reduceEqDiff, Nat.reduceAdd, Nat.reduceSub, Int.reduceToNat, Nat.reduceLeDiff, Nat.reduceLT, reduceCtorEq, Int.reduceEq, retQ, retL, resV, RetV, RetOk, SubL, intD_B, lotD_B, flowD_B, snocI, ty_3, ty_26, ty_4, ty_24, ty_50, ty_22, ty_25, ← List.map_take, issD_get, hd, ← hxd, hd3, hp]; try simp (disch := omega) only [av_w, av_t1, av_tp, Int.toNat_natCast]))
        refine ⟨j + 1, ⟨by omega, fun i hi => by rcases Nat.lt_succ_iff_lt_or_eq.1 hi with h | rfl; exact h0' i h; exact hp⟩, by dsimp only; omega, wk_of [] rfl rfl ?_ ?_⟩
        · simp only [wkT, wkB, wkB1, subV, subVs, subD, subB, lkN_n, lkN_c, lkT_n, lkT_c, lkB_n, lkB_c, if_true, if_false, reduceIte, Nat.reduceEqDiff, true_and, and_true, and_self, inT, ofA]
          (repeat' (first | exact trivial | rfl | exact rfl | exact subVs_d _ _ | exact subVs_dm _ _ | exact subD_refl _ | refine And.intro ?_ ?_))
        · simp only [wkT, wkB, wkB1, subV, subVs, subD, subB, lkN_n, lkN_c, lkT_n, lkT_c, lkB_n, lkB_c, if_true, if_false, reduceIte, Nat.reduceEqDiff, true_and, and_true, and_self, inT, ofA]
      | false =>
        repeat' (first | (with_reducible refine aw_seq ?_) | ((with_reducible refine twoG_intro ?_ ?_) <;> intro hTw <;> first | (exact Bool.noConfusion hTw) | ((try simp only [hTw, avT]); (first | (guard_hyp hTw : true = true; clear hTw) | (guard_hyp hTw : false = false; clear hTw) | (revert hTw; intro _)))) | ((with_reducible refine two_intro ?_ ?_) <;> intro hTw <;> first | (exact Bool.noConfusion hTw) | ((first | (guard_hyp hTw : true = true; clear hTw) | (guard_hyp hTw : false = false; clear hTw) | (revert hTw; intro _)))) | ((with_reducible refine And.intro ?_ ?_); (focus (first | omega | rfl | decide | grind))) | (with_reducible refine aw_block ?_) | (with_reducible refine aw_scope ?_) | ((first | ((with_reducible refine aw_regionA T_ok ?_ ?_); (focus kernel_rfl)) | ((with_reducible refine aw_drawnA T_ok ?_ ?_ ?_ ?_); (focus kernel_rfl); (focus kernel_rfl); (focus (decide +kernel))) | ((with_reducible refine aw_drawnF T_ok ?_ ?_ ?_ ?_); (focus kernel_rfl); (focus kernel_rfl); (focus (decide +kernel))) | ((with_reducible refine callK_intro (qoffice_spec (x.getD j 0)) (by with_unfolding_all rfl) ?_ ?_); (focus kernel_rfl)) | ((with_reducible refine callI_spec (qoffice_spec (x.getD j 0)) (by with_unfolding_all rfl) ?_ ?_ ?_); (focus kernel_rfl); (focus kernel_rfl)) | (with_reducible refine aw_label ?_) | ((with_reducible refine aw_rfM ?_ ?_); (focus kernel_rfl)) | (with_reducible refine aw_skip ?_) | (with_reducible refine aw_exit ?_) | ((with_reducible refine aw_condM ?_ ?_); (focus kernel_rfl)) | (with_reducible refine aw_ret ?_)); simp only [↓avP, avQ, if_true, if_false, forall_const, beq_self_eq_true, eq_self, ne_eq, implies_true, reduceIte, Nat.reduceEqDiff, Nat.reduceAdd, Nat.reduceSub, Int.reduceToNat, Nat.reduceLeDiff, Nat.reduceLT, reduceCtorEq, Int.reduceEq, retQ, retL, resV, RetV, RetOk, SubL, intD_B, lotD_B, flowD_B, snocI, ty_3, ty_26, ty_4, ty_24, ty_50, ty_22, ty_25, ← List.map_take, issD_get, hd, ← hxd, hd3, hp]; try simp (disch := omega) only [av_w, av_t1, av_tp, Int.toNat_natCast]))
        exact Sub.of_eq (congrArg aB (hbad (by rw [hPx, all_fail hjlt hp])).symm)
    · obtain rfl : j = x.length := by omega
      have hd3 := ged (Nat.le_refl x.length)
      have hTk : Pk k = true := by rw [hPx, all_done h0']
      repeat' (first | (with_reducible refine aw_seq ?_) | ((with_reducible refine twoG_intro ?_ ?_) <;> intro hTw <;> first | (exact Bool.noConfusion hTw) | ((try simp only [hTw, avT]); (first | (guard_hyp hTw : true = true; clear hTw) | (guard_hyp hTw : false = false; clear hTw) | (revert hTw; intro _)))) | ((with_reducible refine two_intro ?_ ?_) <;> intro hTw <;> first | (exact Bool.noConfusion hTw) | ((first | (guard_hyp hTw : true = true; clear hTw) | (guard_hyp hTw : false = false; clear hTw) | (revert hTw; intro _)))) | ((with_reducible refine And.intro ?_ ?_); (focus (first | omega | rfl | decide | grind))) | (with_reducible refine aw_block ?_) | (with_reducible refine aw_scope ?_) | ((first | ((with_reducible refine aw_regionA T_ok ?_ ?_); (focus kernel_rfl)) | ((with_reducible refine aw_drawnA T_ok ?_ ?_ ?_ ?_); (focus kernel_rfl); (focus kernel_rfl); (focus (decide +kernel))) | ((with_reducible refine aw_drawnF T_ok ?_ ?_ ?_ ?_); (focus kernel_rfl); (focus kernel_rfl); (focus (decide +kernel))) | (with_reducible refine aw_label ?_) | ((with_reducible refine aw_rfM ?_ ?_); (focus kernel_rfl)) | (with_reducible refine aw_skip ?_) | (with_reducible refine aw_exit ?_) | ((with_reducible refine aw_condM ?_ ?_); (focus kernel_rfl)) | (with_reducible refine aw_ret ?_)); simp only [↓avP, avQ, if_true, if_false, forall_const, beq_self_eq_true, eq_self, ne_eq, implies_true, reduceIte, Nat.reduceEqDiff, Nat.reduceAdd, Nat.reduceSub, Int.reduceToNat, Nat.reduceLeDiff, Nat.reduceLT, reduceCtorEq, Int.reduceEq, retQ, retL, resV, RetV, RetOk, SubL, intD_B, lotD_B, flowD_B, snocI, ty_3, ty_26, ty_4, ty_24, ty_50, ty_22, ty_25, ← List.map_take, issD_get, hd, ← hxd, hd3]; try simp (disch := omega) only [av_w, av_t1, av_tp, Int.toNat_natCast]))
      refine ⟨k + 1, ⟨by omega, fun i hi => by rcases Nat.lt_succ_iff_lt_or_eq.1 hi with h | rfl; exact h0 i h; exact hTk⟩, by dsimp only; omega, wk_of [] rfl rfl ?_ ?_⟩
      · simp only [wkT, wkB, wkB1, subV, subVs, subD, subB, lkN_n, lkN_c, lkT_n, lkT_c, lkB_n, lkB_c, if_true, if_false, reduceIte, Nat.reduceEqDiff, true_and, and_true, and_self, inT, ofA]
        (repeat' (first | exact trivial | rfl | exact rfl | exact subVs_d _ _ | exact subVs_dm _ _ | exact subD_refl _ | refine And.intro ?_ ?_))
      · simp only [wkT, wkB, wkB1, subV, subVs, subD, subB, lkN_n, lkN_c, lkT_n, lkT_c, lkB_n, lkB_c, if_true, if_false, reduceIte, Nat.reduceEqDiff, true_and, and_true, and_self, inT, ofA]
  · obtain rfl : k = l.length := by omega
    have hd := ged (Nat.le_refl l.length)
    repeat' (first | (with_reducible refine aw_seq ?_) | ((with_reducible refine twoG_intro ?_ ?_) <;> intro hTw <;> first | (exact Bool.noConfusion hTw) | ((try simp only [hTw, avT]); (first | (guard_hyp hTw : true = true; clear hTw) | (guard_hyp hTw : false = false; clear hTw) | (revert hTw; intro _)))) | ((with_reducible refine two_intro ?_ ?_) <;> intro hTw <;> first | (exact Bool.noConfusion hTw) | ((first | (guard_hyp hTw : true = true; clear hTw) | (guard_hyp hTw : false = false; clear hTw) | (revert hTw; intro _)))) | ((with_reducible refine And.intro ?_ ?_); (focus (first | omega | rfl | decide | grind))) | (with_reducible refine aw_block ?_) | (with_reducible refine aw_scope ?_) | ((first | ((with_reducible refine aw_regionA T_ok ?_ ?_); (focus kernel_rfl)) | ((with_reducible refine aw_drawnA T_ok ?_ ?_ ?_ ?_); (focus kernel_rfl); (focus kernel_rfl); (focus (decide +kernel))) | ((with_reducible refine aw_drawnF T_ok ?_ ?_ ?_ ?_); (focus kernel_rfl); (focus kernel_rfl); (focus (decide +kernel))) | (with_reducible refine aw_label ?_) | ((with_reducible refine aw_rfM ?_ ?_); (focus kernel_rfl)) | (with_reducible refine aw_skip ?_) | (with_reducible refine aw_exit ?_) | ((with_reducible refine aw_condM ?_ ?_); (focus kernel_rfl)) | (with_reducible refine aw_ret ?_)); simp only [↓avP, avQ, if_true, if_false, forall_const, beq_self_eq_true, eq_self, ne_eq, implies_true, reduceIte, Nat.reduceEqDiff, Nat.reduceAdd, Nat.reduceSub, Int.reduceToNat, Nat.reduceLeDiff, Nat.reduceLT, reduceCtorEq, Int.reduceEq, retQ, retL, resV, RetV, RetOk, SubL, intD_B, lotD_B, flowD_B, snocI, ty_3, ty_26, ty_4, ty_24, ty_50, ty_22, ty_25, ← List.map_take, issD_get, hd]; try simp (disch := omega) only [av_w, av_t1, av_tp, Int.toNat_natCast]))
    exact Sub.of_eq (congrArg aB (by rw [hres, all_done h0, Bool.true_and, Bool.eq_iff_iff]; simp; omega))
end Go.Proofs.Ytlnkmaejiceloaa


namespace Go.Proofs.Ytlnkmaejiceloaa
set_option linter.unusedSimpArgs false
set_option linter.unusedVariables false
open Go.RowKit
set_option maxRecDepth 100000
set_option maxHeartbeats 4000000
def fewF (f : FlowP) : Bool := ((List.range (min f.lots.length 20)).all fun k => !(decide (((f.lots.getD k default).inn.length : Int) > 70) || decide (((f.lots.getD k default).perm.length : Int) > 70))) && decide (f.lots.length ≤ 20)
theorem ffew_spec (f : FlowP) (hl : f.lots.length ≤ 140737488351232) : Spec Try.prog 25 [.agg (flowD f)] (.r1 (aB (fewF f))) := by
  refine spec_of T_ok Try.func25 (by dsimp only [Try.f25]) rfl rfl (by simp) fun w F => ?_
  obtain ⟨Pk, hPk⟩ : ∃ Pk : Nat → Bool, Pk = fun k => !(decide (((f.lots.getD k default).inn.length : Int) > 70) || decide (((f.lots.getD k default).perm.length : Int) > 70)) := ⟨_, rfl⟩
  have hres : fewF f = ((List.range (min f.lots.length 20)).all Pk && decide (f.lots.length ≤ 20)) := by rw [fewF, hPk]
  repeat' (first | (with_reducible refine aw_seq ?_) | ((with_reducible refine twoG_intro ?_ ?_) <;> intro hTw <;> first | (exact Bool.noConfusion hTw) | ((try simp only [hTw, avT]); (first | (guard_hyp hTw : true = true; clear hTw) | (guard_hyp hTw : false = false; clear hTw) | (revert hTw; intro _)))) | ((with_reducible refine two_intro ?_ ?_) <;> intro hTw <;> first | (exact Bool.noConfusion hTw) | ((first | (guard_hyp hTw : true = true; clear hTw) | (guard_hyp hTw : false = false; clear hTw) | (revert hTw; intro _)))) | ((with_reducible refine And.intro ?_ ?_); (focus (first | omega | rfl | decide | grind))) | (with_reducible refine aw_block ?_) | (with_reducible refine aw_scope ?_) | ((first | ((with_reducible refine aw_regionA T_ok ?_ ?_); (focus kernel_rfl)) | ((with_reducible refine aw_drawnA T_ok ?_ ?_ ?_ ?_); (focus kernel_rfl); (focus kernel_rfl); (focus (decide +kernel))) | ((with_reducible refine aw_drawnF T_ok ?_ ?_ ?_ ?_); (focus kernel_rfl); (focus kernel_rfl); (focus (decide +kernel))) | (with_reducible refine aw_label ?_) | ((with_reducible refine aw_rfM ?_ ?_); (focus kernel_rfl)) | (with_reducible refine aw_skip ?_) | (with_reducible refine aw_exit ?_) | ((with_reducible refine aw_condM ?_ ?_); (focus kernel_rfl)) | (with_reducible refine aw_ret ?_)); simp only [↓avP, avQ, if_true, if_false, forall_const, beq_self_eq_true, eq_self, ne_eq, implies_true, reduceIte, Nat.reduceEqDiff, Nat.reduceAdd, Nat.reduceSub, Int.reduceToNat, Nat.reduceLeDiff, Nat.reduceLT, reduceCtorEq, Int.reduceEq, retQ, retL, resV, RetV, RetOk, SubL, intD_B, lotD_B, flowD_B, snocI, ty_3, ty_26, ty_4, ty_24, ty_50, ty_22, ty_25, ← List.map_take, issD_get]; try simp (disch := omega) only [av_w, av_t1, av_tp, Int.toNat_natCast]))
  refine aw_loopI (fun k : Nat => ⟨[(1, .ptr 0 0), (3, vI k)], [(0, .cells 24 (dV (flowD f)))], 1⟩) (fun k => k ≤ min f.lots.length 20 ∧ ∀ i, i < k → Pk i = true) (fun k => min f.lots.length 20 - k) 0 ⟨Nat.zero_le _, fun i hi => absurd hi (Nat.not_lt_zero i)⟩ (wk_of [(0, some 0)] rfl rfl ?_ ?_) ?_
  · simp only [wkT, wkB, wkB1, subV, subVs, subD, subB, lkN_n, lkN_c, lkT_n, lkT_c, lkB_n, lkB_c, if_true, if_false, reduceIte, Nat.reduceEqDiff, true_and, and_true, and_self, inT, ofA]
    (repeat' (first | exact trivial | rfl | exact rfl | exact subVs_d _ _ | exact subVs_dm _ _ | exact subD_refl _ | refine And.intro ?_ ?_))
  · simp only [wkT, wkB, wkB1, subV, subVs, subD, subB, lkN_n, lkN_c, lkT_n, lkT_c, lkB_n, lkB_c, if_true, if_false, reduceIte, Nat.reduceEqDiff, true_and, and_true, and_self, inT, ofA]
    (repeat' (first | exact trivial | rfl | exact rfl | exact subVs_d _ _ | exact subVs_dm _ _ | exact subD_refl _ | refine And.intro ?_ ?_))
  rintro k ⟨hk, h0⟩
  rcases Nat.lt_or_ge k (min f.lots.length 20) with hlt | hge
  · have hlt1 : k < f.lots.length := by omega
    have hd1 : (decide ((k : Int) < (f.lots.length : Int)) && decide ((k : Int) < 20)) = true := by
      rw [Bool.and_eq_true, decide_eq_true_eq, decide_eq_true_eq]; omega
    have hPd : Pk k = !(decide (((f.lots.getD k default).inn.length : Int) > 70) || decide (((f.lots.getD k default).perm.length : Int) > 70)) := by rw [hPk]
    cases hp : (decide (((f.lots.getD k default).inn.length : Int) > 70) || decide (((f.lots.getD k default).perm.length : Int) > 70)) with
    | false =>
      repeat' (first | (with_reducible refine aw_seq ?_) | ((with_reducible refine twoG_intro ?_ ?_) <;> intro hTw <;> first | (exact Bool.noConfusion hTw) | ((try simp only [hTw, avT]); (first | (guard_hyp hTw : true = true; clear hTw) | (guard_hyp hTw : false = false; clear hTw) | (revert hTw; intro _)))) | ((with_reducible refine two_intro ?_ ?_) <;> intro hTw <;> first | (exact Bool.noConfusion hTw) | ((first | (guard_hyp hTw : true = true; clear hTw) | (guard_hyp hTw : false = false; clear hTw) | (revert hTw; intro _)))) | ((with_reducible refine And.intro ?_ ?_); (focus (first | omega | rfl | decide | grind))) | (with_reducible refine aw_block ?_) | (with_reducible refine aw_scope ?_) | ((first | ((with_reducible refine aw_regionA T_ok ?_ ?_); (focus kernel_rfl)) | ((with_reducible refine aw_drawnA T_ok ?_ ?_ ?_ ?_); (focus kernel_rfl); (focus kernel_rfl); (focus (decide +kernel))) | ((with_reducible refine aw_drawnF T_ok ?_ ?_ ?_ ?_); (focus kernel_rfl); (focus kernel_rfl); (focus (decide +kernel))) | (with_reducible refine aw_label ?_) | ((with_reducible refine aw_rfM ?_ ?_); (focus kernel_rfl)) | (with_reducible refine aw_skip ?_) | (with_reducible refine aw_exit ?_) | ((with_reducible refine aw_condM ?_ ?_); (focus kernel_rfl)) | (with_reducible refine aw_ret ?_)); simp only [↓avP, avQ, if_true, if_false, forall_const, beq_self_eq_true, eq_self, ne_eq, implies_true, reduceIte, Nat.reduceEqDiff, Nat.reduceAdd, Nat.reduceSub, Int.reduceToNat, Nat.reduceLeDiff, Nat.reduceLT, reduceCtorEq, Int.reduceEq, retQ, retL, resV, RetV, RetOk, SubL, intD_B, lotD_B, flowD_B, snocI, ty_3, ty_26, ty_4, ty_24, ty_50, ty_22, ty_25, ← List.map_take, issD_get, hd1, hp]; try simp (disch := omega) only [av_w, av_t1, av_tp, Int.toNat_natCast]))
      refine ⟨k + 1, ⟨by omega, fun i hi => by rcases Nat.lt_succ_iff_lt_or_eq.1 hi with h | rfl; exact h0 i h; rw [hPd, hp]; rfl⟩, by dsimp only; omega, wk_of [(0, some 0)] rfl rfl ?_ ?_⟩
      · simp only [wkT, wkB, wkB1, subV, subVs, subD, subB, lkN_n, lkN_c, lkT_n, lkT_c, lkB_n, lkB_c, if_true, if_false, reduceIte, Nat.reduceEqDiff, true_and, and_true, and_self, inT, ofA]
        (repeat' (first | exact trivial | rfl | exact rfl | exact subVs_d _ _ | exact subVs_dm _ _ | exact subD_refl _ | refine And.intro ?_ ?_))
      · simp only [wkT, wkB, wkB1, subV, subVs, subD, subB, lkN_n, lkN_c, lkT_n, lkT_c, lkB_n, lkB_c, if_true, if_false, reduceIte, Nat.reduceEqDiff, true_and, and_true, and_self, inT, ofA]
        (repeat' (first | exact trivial | rfl | exact rfl | exact subVs_d _ _ | exact subVs_dm _ _ | exact subD_refl _ | refine And.intro ?_ ?_))
    | true =>
      repeat' (first | (with_reducible refine aw_seq ?_) | ((with_reducible refine twoG_intro ?_ ?_) <;> intro hTw <;> first | (exact Bool.noConfusion hTw) | ((try simp only [hTw, avT]); (first | (guard_hyp hTw : true = true; clear hTw) | (guard_hyp hTw : false = false; clear hTw) | (revert hTw; intro _)))) | ((with_reducible refine two_intro ?_ ?_) <;> intro hTw <;> first | (exact Bool.noConfusion hTw) | ((first | (guard_hyp hTw : true = true; clear hTw) | (guard_hyp hTw : false = false; clear hTw) | (revert hTw; intro _)))) | ((with_reducible refine And.intro ?_ ?_); (focus (first | omega | rfl | decide | grind))) | (with_reducible refine aw_block ?_) | (with_reducible refine aw_scope ?_) | ((first | ((with_reducible refine aw_regionA T_ok ?_ ?_); (focus kernel_rfl)) | ((with_reducible refine aw_drawnA T_ok ?_ ?_ ?_ ?_); (focus kernel_rfl); (focus kernel_rfl); (focus (decide +kernel))) | ((with_reducible refine aw_drawnF T_ok ?_ ?_ ?_ ?_); (focus kernel_rfl); (focus kernel_rfl); (focus (decide +kernel))) | (with_reducible refine aw_label ?_) | ((with_reducible refine aw_rfM ?_ ?_); (focus kernel_rfl)) | (with_reducible refine aw_skip ?_) | (with_reducible refine aw_exit ?_) | ((with_reducible refine aw_condM ?_ ?_); (focus kernel_rfl)) | (with_reducible refine aw_ret ?_)); simp only [↓avP, avQ, if_true, if_false, forall_const, beq_self_eq_true, eq_self, ne_eq, implies_true, reduceIte, Nat.reduceEqDiff, Nat.reduceAdd, Nat.reduceSub, Int.reduceToNat, Nat.reduceLeDiff, Nat.reduceLT, reduceCtorEq, Int.reduceEq, retQ, retL, resV, RetV, RetOk, SubL, intD_B, lotD_B, flowD_B, snocI, ty_3, ty_26, ty_4, ty_24, ty_50, ty_22, ty_25, ← List.map_take, issD_get, hd1, hp]; try simp (disch := omega) only [av_w, av_t1, av_tp, Int.toNat_natCast]))
      exact Sub.of_eq (congrArg aB (by rw [hres, all_fail hlt (by rw [hPd, hp]; rfl)]; rfl))
  · have hkm : k = min f.lots.length 20 := by omega
    have hd1 : (decide ((k : Int) < (f.lots.length : Int)) && decide ((k : Int) < 20)) = false := by
      rw [Bool.and_eq_false_iff, decide_eq_false_iff_not, decide_eq_false_iff_not]; omega
    rw [hkm] at h0
    have hT := all_done h0
    repeat' (first | (with_reducible refine aw_seq ?_) | ((with_reducible refine twoG_intro ?_ ?_) <;> intro hTw <;> first | (exact Bool.noConfusion hTw) | ((try simp only [hTw, avT]); (first | (guard_hyp hTw : true = true; clear hTw) | (guard_hyp hTw : false = false; clear hTw) | (revert hTw; intro _)))) | ((with_reducible refine two_intro ?_ ?_) <;> intro hTw <;> first | (exact Bool.noConfusion hTw) | ((first | (guard_hyp hTw : true = true; clear hTw) | (guard_hyp hTw : false = false; clear hTw) | (revert hTw; intro _)))) | ((with_reducible refine And.intro ?_ ?_); (focus (first | omega | rfl | decide | grind))) | (with_reducible refine aw_block ?_) | (with_reducible refine aw_scope ?_) | ((first | ((with_reducible refine aw_regionA T_ok ?_ ?_); (focus kernel_rfl)) | ((with_reducible refine aw_drawnA T_ok ?_ ?_ ?_ ?_); (focus kernel_rfl); (focus kernel_rfl); (focus (decide +kernel))) | ((with_reducible refine aw_drawnF T_ok ?_ ?_ ?_ ?_); (focus kernel_rfl); (focus kernel_rfl); (focus (decide +kernel))) | (with_reducible refine aw_label ?_) | ((with_reducible refine aw_rfM ?_ ?_); (focus kernel_rfl)) | (with_reducible refine aw_skip ?_) | (with_reducible refine aw_exit ?_) | ((with_reducible refine aw_condM ?_ ?_); (focus kernel_rfl)) | (with_reducible refine aw_ret ?_)); simp only [↓avP, avQ, if_true, if_false, forall_const, beq_self_eq_true, eq_self, ne_eq, implies_true, reduceIte, Nat.reduceEqDiff, Nat.reduceAdd, Nat.reduceSub, Int.reduceToNat, Nat.reduceLeDiff, Nat.reduceLT, reduceCtorEq, Int.reduceEq, retQ, retL, resV, RetV, RetOk, SubL, intD_B, lotD_B, flowD_B, snocI, ty_3, ty_26, ty_4, ty_24, ty_50, ty_22, ty_25, ← List.map_take, issD_get, hd1]; try simp (disch := omega) only [av_w, av_t1, av_tp, Int.toNat_natCast]))
    exact Sub.of_eq (congrArg aB (by rw [hres, hT, Bool.true_and, Bool.eq_iff_iff]; simp; omega))
def endsF (f : FlowP) : List Int := ((List.range (befF f f.lots.length).toNat).map fun n : Nat => (n : Int)).filter fun s => !decide (s ∈ goneF f f.lots.length)
def endAt (f : FlowP) (k : Nat) : List Int := ((List.range k).map fun n : Nat => (n : Int)).filter fun s => !decide (s ∈ goneF f f.lots.length)
theorem endAt_succ (f : FlowP) (k : Nat) : endAt f (k + 1) = endAt f k ++ (if decide ((k : Int) ∈ goneF f f.lots.length) = true then [] else [(k : Int)]) := by
  unfold endAt
  rw [List.range_succ, List.map_append, List.filter_append]
  congr 1
  simp only [List.map_cons, List.map_nil, List.filter_cons, List.filter_nil]
  by_cases h : (k : Int) ∈ goneF f f.lots.length <;> simp [h]
theorem endAt_len (f : FlowP) (k : Nat) : (endAt f k).length ≤ k := by
  unfold endAt
  exact Nat.le_trans (List.length_filter_le _ _) (by simp)
theorem checkF_zero {f : FlowP} (h : checkF f = 0) : f.senders ≤ 64 ∧ f.lots.length ≤ 2000 ∧ befF f f.lots.length ≤ 50000 ∧ 0 ≤ f.senders ∧ ∀ k, k < f.lots.length → okAt f k = true := by
  unfold checkF at h
  split at h
  · cases h
  · rename_i h1
    split at h
    · cases h
    · rename_i h2
      split at h
      · rename_i h3
        refine ⟨by omega, by omega, by omega, by omega, fun k hk => ?_⟩
        unfold validF at h3
        exact List.all_eq_true.1 h3 k (by simpa using hk)
      · cases h
theorem checkF_small {f : FlowP} (h : checkF f = 0) : SmallF f := by
  have := checkF_zero h
  exact ⟨by omega, by omega⟩
def endsR (f : FlowP) : List Int := if checkF f = 0 then endsF f else []
end Go.Proofs.Ytlnkmaejiceloaa


namespace Go.Proofs.Ytlnkmaejiceloaa
set_option linter.unusedSimpArgs false
set_option linter.unusedVariables false
open Go.RowKit
theorem snocL (l : List LotP) (x : LotP) : l.map lotD ++ [lotD x] = (l ++ [x]).map lotD := by simp
set_option maxRecDepth 100000
set_option maxHeartbeats 4000000
def knownF (f : FlowP) : Bool := (List.range f.lots.length).all fun k => !(!(f.lots.getD k default).known)
/-- what a valid, known lot is -/
structure GoodL (bef : Int) (gone : List Int) (x : LotP) : Prop where
  ne : x.inn.length ≠ 0
  nd : x.inn.Nodup
  fr : ∀ s ∈ x.inn, 0 ≤ s ∧ s < bef ∧ s ∉ gone
  pl : x.known = true → x.perm.length = x.inn.length ∧ x.perm.Nodup ∧ ∀ i ∈ x.perm, 0 ≤ i ∧ i < (x.inn.length : Int)
  pu : x.known = false → x.perm = []
theorem goodL_iff (bef : Int) (gone : List Int) (x : LotP) : lotB bef gone x = true ↔ GoodL bef gone x := by
  unfold lotB diffB
  simp only [Bool.and_eq_true, decide_eq_true_eq, List.all_eq_true, freeB, Bool.not_eq_true', decide_eq_false_iff_not]
  constructor
  · rintro ⟨⟨h1, h2, h3⟩, h4⟩
    refine ⟨h1, h2, fun s hs => ?_, fun hk => ?_, fun hk => ?_⟩
    · have := h3 s hs
      exact ⟨this.1.1, this.1.2, this.2⟩
    · rw [if_pos hk] at h4
      simp only [Bool.and_eq_true, decide_eq_true_eq, List.all_eq_true, outB] at h4
      exact ⟨h4.1, h4.2.1, h4.2.2⟩
    · rw [if_neg (by rw [hk]; simp)] at h4
      exact List.eq_nil_of_length_eq_zero (by simpa using h4)
  · rintro ⟨h1, h2, h3, h4, h5⟩
    refine ⟨⟨h1, h2, fun s hs => ?_⟩, ?_⟩
    · have := h3 s hs
      exact ⟨⟨this.1, this.2.1⟩, this.2.2⟩
    · by_cases hk : x.known = true
      · obtain ⟨g1, g2, g3⟩ := h4 hk
        rw [if_pos hk]
        simp only [Bool.and_eq_true, decide_eq_true_eq, List.all_eq_true, outB]
        exact ⟨g1, g2, g3⟩
      · rw [if_neg hk, h5 (by simpa using hk)]
        rfl
theorem goodL_at {f : FlowP} (h : checkF f = 0) {k : Nat} (hk : k < f.lots.length) : GoodL (befF f k) (goneF f k) (f.lots.getD k default) := (goodL_iff _ _ _).1 ((checkF_zero h).2.2.2.2 k hk)
def seesB (lines : List (List Int)) (coal : List Int) (k : Nat) : Bool := (lines.getD k []).all fun x => decide (x ∈ coal)
def viewL (f : FlowP) (lines : List (List Int)) (coal : List Int) (k : Nat) : LotP := if seesB lines coal k = true then f.lots.getD k default else ⟨(f.lots.getD k default).inn, false, []⟩
/-- its cells, as the code lays them: no permutation is nil -/
def viewE (f : FlowP) (lines : List (List Int)) (coal : List Int) (k : Nat) : List D := if seesB lines coal k = true then lotD (f.lots.getD k default) else [.sl 1 (intD 0) ((f.lots.getD k default).inn.map intD), .c (.bool false), .c (.slice none 0 0)]
theorem viewE_sub (f : FlowP) (lines : List (List Int)) (coal : List Int) (k : Nat) : SubDL (viewE f lines coal k) (lotD (viewL f lines coal k)) := by
  unfold viewE viewL
  split
  · exact SubDL.refl _
  · exact ⟨SubD.refl _, SubD.refl _, SubD.of _ _ rfl, trivial⟩
def viewEs (f : FlowP) (lines : List (List Int)) (coal : List Int) (k : Nat) : List (List D) := (List.range k).map (viewE f lines coal)
theorem viewEs_succ (f : FlowP) (lines : List (List Int)) (coal : List Int) (k : Nat) : viewEs f lines coal (k + 1) = viewEs f lines coal k ++ [viewE f lines coal k] := by simp [viewEs, List.range_succ]
theorem viewEs_len (f : FlowP) (lines : List (List Int)) (coal : List Int) (k : Nat) : (viewEs f lines coal k).length = k := by simp [viewEs]
def viewAt (f : FlowP) (lines : List (List Int)) (coal : List Int) (k : Nat) : List LotP := (List.range k).map (viewL f lines coal)
theorem viewAt_len (f : FlowP) (lines : List (List Int)) (coal : List Int) (k : Nat) : (viewAt f lines coal k).length = k := by simp [viewAt]
def errV (f : FlowP) (lines : List (List Int)) (coal : List Int) : Int := if checkF f ≠ 0 then checkF f else if (knownF f && linesB lines f.lots.length && coalB coal) = true then 0 else 1
instance : Inhabited FlowP := ⟨⟨0, []⟩⟩
def viewR (f : FlowP) (lines : List (List Int)) (coal : List Int) : FlowP := if errV f lines coal = 0 then ⟨f.senders, viewAt f lines coal f.lots.length⟩ else default
end Go.Proofs.Ytlnkmaejiceloaa


namespace Go.Proofs.Ytlnkmaejiceloaa
set_option linter.unusedSimpArgs false
set_option linter.unusedVariables false
open Go.RowKit
def upI (t v : Int) : List (Int × Int) → List (Int × Int)
  | [] => [(t, v)]
  | (u, w) :: l => if t = u then (t, v) :: l else (u, w) :: upI t v l
def dlI (t : Int) : List (Int × Int) → List (Int × Int)
  | [] => []
  | (u, w) :: l => if t = u then l else (u, w) :: dlI t l
theorem upI_new {t v : Int} : ∀ {m : List (Int × Int)}, t ∉ m.map (·.1) → upI t v m = m ++ [(t, v)]
  | [], _ => rfl
  | (u, w) :: l, h => by
    simp only [List.map_cons, List.mem_cons, not_or] at h
    rw [upI, if_neg h.1, upI_new h.2, List.cons_append]
theorem dlI_eq {t : Int} : ∀ {m : List (Int × Int)}, (m.map (·.1)).Nodup → dlI t m = m.filter fun p => !decide (p.1 = t)
  | [], _ => rfl
  | (u, w) :: l, h => by
    simp only [List.map_cons, List.nodup_cons] at h
    rw [dlI]
    by_cases e : t = u
    · rw [if_pos e, List.filter_cons, if_neg (by simp [e])]
      refine (List.filter_eq_self.2 fun p hp => ?_).symm
      have : p.1 ≠ t := fun e' => h.1 (by rw [← e, ← e']; exact List.mem_map_of_mem hp)
      simpa using this
    · rw [if_neg e, List.filter_cons, if_pos (by simp; exact fun e' => e e'.symm), dlI_eq h.2]
/-- the letters' places: a map from places to senders -/
structure OfInv (S : Nat) (g : Nat → Int) (m : List (Int × Int)) : Prop where
  nd : (m.map (·.1)).Nodup
  mem : ∀ t v, (t, v) ∈ m ↔ ∃ s : Nat, s < S ∧ v = s ∧ g s = t
theorem OfInv.move {S : Nat} {g : Nat → Int} {m : List (Int × Int)} (h : OfInv S g m) {s0 : Nat} {t t' : Int} (hs : s0 < S) (hg : g s0 = t) (hu : ∀ s, s < S → g s = t → s = s0) (hf : ∀ s, s < S → g s ≠ t') :
    OfInv S (fun s => if g s = t then t' else g s) (dlI t (upI t' s0 m)) := by
  have hk : t' ∉ m.map (·.1) := fun hm => by
    obtain ⟨⟨u, v⟩, hp, e⟩ := List.mem_map.1 hm
    obtain ⟨s, h1, _, h3⟩ := (h.mem u v).1 hp
    exact hf s h1 (h3.trans e)
  have htt : t' ≠ t := fun e => hf s0 hs (hg.trans e.symm)
  have hnd : ((m ++ [(t', (s0 : Int))]).map (·.1)).Nodup := by
    rw [List.map_append, List.nodup_append]
    exact ⟨h.nd, by simp, fun a ha b hb e => hk (by simp at hb; rw [← hb, ← e]; exact ha)⟩
  rw [upI_new hk, dlI_eq hnd]
  refine ⟨hnd.sublist ((List.filter_sublist).map _), fun u v => ?_⟩
  rw [List.mem_filter, List.mem_append, h.mem]
  simp only [List.mem_singleton, Prod.mk.injEq, Bool.not_eq_true', decide_eq_false_iff_not]
  constructor
  · rintro ⟨⟨s, h1, h2, h3⟩ | ⟨h1, h2⟩, h4⟩
    · exact ⟨s, h1, h2, by rw [if_neg (by rw [h3]; exact h4)]; exact h3⟩
    · exact ⟨s0, hs, h2, by rw [if_pos hg, h1]⟩
  · rintro ⟨s, h1, h2, h3⟩
    by_cases e : g s = t
    · rw [if_pos e] at h3
      have := hu s h1 e
      subst this
      exact ⟨.inr ⟨h3.symm, h2⟩, by rw [← h3]; exact htt⟩
    · rw [if_neg e] at h3
      exact ⟨.inl ⟨s, h1, h2, h3⟩, by rw [← h3]; exact e⟩
theorem OfInv.congr {S : Nat} {g g' : Nat → Int} {m : List (Int × Int)} (h : OfInv S g m) (he : ∀ s, s < S → g s = g' s) : OfInv S g' m :=
  ⟨h.nd, fun t v => (h.mem t v).trans ⟨fun ⟨s, h1, h2, h3⟩ => ⟨s, h1, h2, (he s h1).symm.trans h3⟩, fun ⟨s, h1, h2, h3⟩ => ⟨s, h1, h2, (he s h1).trans h3⟩⟩⟩
section
variable {f : FlowP}
end
end Go.Proofs.Ytlnkmaejiceloaa


namespace Go.Proofs.Ytlnkmaejiceloaa
set_option linter.unusedSimpArgs false
set_option linter.unusedVariables false
open Go.RowKit
theorem mem_endsF {f : FlowP} {t : Int} : t ∈ endsF f ↔ 0 ≤ t ∧ t < befF f f.lots.length ∧ t ∉ goneF f f.lots.length := by
  unfold endsF
  rw [List.mem_filter, List.mem_map]
  simp only [List.mem_range, Bool.not_eq_true', decide_eq_false_iff_not]
  exact ⟨fun ⟨⟨n, h1, h2⟩, h3⟩ => ⟨by omega, by omega, h3⟩, fun ⟨h1, h2, h3⟩ => ⟨⟨t.toNat, by omega, by omega⟩, h3⟩⟩
end Go.Proofs.Ytlnkmaejiceloaa


namespace Go.Proofs.Ytlnkmaejiceloaa
set_option linter.unusedSimpArgs false
set_option linter.unusedVariables false
open Go.RowKit
abbrev takeF (f : FlowP) (k : Nat) : FlowP := ⟨f.senders, f.lots.take k⟩
section
variable {f : FlowP} {k i : Nat}
theorem OkF.take (hf : OkF f) (k : Nat) : OkF (takeF f k) := ⟨hf.s, Nat.le_trans (List.length_take_le' _ _) hf.l, fun x hx => hf.lots x (List.mem_of_mem_take hx)⟩
end
end Go.Proofs.Ytlnkmaejiceloaa


namespace Go.Proofs.Ytlnkmaejiceloaa
set_option linter.unusedSimpArgs false
set_option linter.unusedVariables false
open Go.RowKit
section
variable {f : FlowP} {x : LotP}
end
end Go.Proofs.Ytlnkmaejiceloaa


namespace Go.Proofs.Ytlnkmaejiceloaa
set_option linter.unusedSimpArgs false
set_option linter.unusedVariables false
open Go.RowKit
theorem coalB_of {l : List Int} (h1 : ∀ x ∈ l, officeB x = true) (h2 : l.Pairwise (· < ·)) : coalB l = true := by
  unfold coalB
  rw [List.all_eq_true]
  intro k hk
  have hk' : k < l.length := by simpa using hk
  have e1 : l.getD k 0 = l[k] := by simp [List.getD, hk']
  have h3 := h1 _ (List.getElem_mem hk')
  rw [e1, h3]
  rcases Nat.eq_zero_or_pos k with h0 | h0
  · simp [h0]
  · have e2 : l.getD (k - 1) 0 = l[k - 1] := by simp [List.getD, show k - 1 < l.length by omega]
    rw [e2]
    have := List.pairwise_iff_getElem.1 h2 (k - 1) k (by omega) hk' (by omega)
    simp
    omega
section
variable {f : FlowP} {lines : List (List Int)} {coal : List Int}
theorem view_ok (hc : checkF f = 0) (hk : knownF f = true) (hl : linesB lines f.lots.length = true) (ho : coalB coal = true) : errV f lines coal = 0 ∧ viewR f lines coal = ⟨f.senders, viewAt f lines coal f.lots.length⟩ := by
  have : errV f lines coal = 0 := by
    unfold errV
    rw [if_neg (by simpa using hc), if_pos (by rw [hk, hl, ho]; rfl)]
  exact ⟨this, by rw [viewR, if_pos this]⟩
theorem viewAt_get {k : Nat} (h : k < f.lots.length) : (viewAt f lines coal f.lots.length).getD k default = viewL f lines coal k := by
  unfold viewAt
  rw [List.getD, List.getElem?_map, List.getElem?_range h]
  rfl
theorem viewL_inn (k : Nat) : (viewL f lines coal k).inn = (f.lots.getD k default).inn := by
  unfold viewL; split <;> rfl
theorem view_inns : ∀ k, k ≤ f.lots.length → ((viewAt f lines coal f.lots.length).take k).map (·.inn) = (f.lots.take k).map (·.inn) := by
  intro k hk
  refine List.ext_getElem? fun i => ?_
  rw [List.getElem?_map, List.getElem?_map, List.getElem?_take, List.getElem?_take]
  by_cases hi : i < k
  · rw [if_pos hi, if_pos hi]
    have e1 : (viewAt f lines coal f.lots.length)[i]? = some (viewL f lines coal i) := by
      unfold viewAt; rw [List.getElem?_map, List.getElem?_range (by omega)]; rfl
    have e2 : f.lots[i]? = some (f.lots.getD i default) := by rw [List.getD, List.getElem?_eq_getElem (by omega)]; rfl
    rw [e1, e2, Option.map_some, Option.map_some, viewL_inn]
  · rw [if_neg hi, if_neg hi]
abbrev vF (f : FlowP) (lines : List (List Int)) (coal : List Int) : FlowP := ⟨f.senders, viewAt f lines coal f.lots.length⟩
theorem view_bef {k : Nat} (hk : k ≤ f.lots.length) : befF (vF f lines coal) k = befF f k := by
  unfold befF
  have := congrArg (fun l : List (List Int) => (l.map List.length).sum) (view_inns (f := f) (lines := lines) (coal := coal) k hk)
  simp only [List.map_map] at this
  have e : (List.length ∘ fun x : LotP => x.inn) = fun x : LotP => x.inn.length := rfl
  rw [e] at this
  show f.senders + _ = f.senders + _
  rw [this]
theorem view_gone {k : Nat} (hk : k ≤ f.lots.length) : goneF (vF f lines coal) k = goneF f k := by
  unfold goneF
  rw [List.flatMap_def, List.flatMap_def, view_inns k hk]
theorem view_check (hc : checkF f = 0) : checkF (vF f lines coal) = 0 := by
  obtain ⟨z1, z2, z3, z4, z5⟩ := checkF_zero hc
  have hl : (vF f lines coal).lots.length = f.lots.length := viewAt_len _ _ _ _
  unfold checkF
  rw [hl, view_bef (Nat.le_refl _), if_neg (by show ¬ (64 < f.senders ∨ _); omega), if_neg (by show ¬ f.senders < 0; omega), if_pos]
  unfold validF
  rw [hl, List.all_eq_true]
  intro i hi
  have hil : i < f.lots.length := by simpa using hi
  have hg := goodL_at hc hil
  unfold okAt
  rw [view_bef (by omega), view_gone (by omega), viewAt_get hil, goodL_iff]
  unfold viewL
  split
  · exact hg
  · exact ⟨hg.ne, hg.nd, hg.fr, fun h => by simp at h, fun _ => rfl⟩
theorem okF_vF (hf : OkF f) : OkF (vF f lines coal) := by
  refine ⟨hf.s, by rw [viewAt_len]; exact hf.l, fun x hx => ?_⟩
  obtain ⟨k, _, rfl⟩ := List.mem_map.1 hx
  unfold viewL
  split
  · exact hf.at k
  · exact ⟨(hf.at k).inn, by simp, (hf.at k).li, by simp⟩
end
end Go.Proofs.Ytlnkmaejiceloaa

