import Derived.Test.YtfndjciojljkfaaFB6
namespace Go.Proofs.Ytfndjciojljkfaa
set_option linter.unusedSimpArgs false
set_option linter.unusedVariables false
open Go.RowKit
abbrev issD (x : List Int) : List D := [.sl 1 (intD 0) (x.map intD)]
abbrev aIss (l : List (List Int)) : A := .one (.sl 1 (issD []) (l.map issD))
abbrev vIss (l : List (List Int)) : V := .d (.sl 1 (issD []) (l.map issD))
set_option maxRecDepth 100000
set_option maxHeartbeats 4000000
theorem issD_get (l : List (List Int)) (k : Nat) : (l.map issD).getD k (issD []) = issD (l.getD k []) := by
  rw [List.getD, List.getD, List.getElem?_map]
  cases l[k]? <;> rfl
theorem has_all (l : List (List Int)) (P : List Int → Bool) : ((List.range l.length).all fun k => P (l.getD k [])) = l.all P := by
  rw [Bool.eq_iff_iff, List.all_eq_true, List.all_eq_true]
  constructor
  · intro h x hx
    obtain ⟨i, hi, rfl⟩ := List.getElem_of_mem hx
    have := h i (by simpa using hi)
    simpa [List.getD, hi] using this
  · intro h i hi
    have hi : i < l.length := by simpa using hi
    have : l.getD i [] = l[i] := by simp [List.getD, hi]
    rw [this]
    exact h _ (by simp)
theorem qcoal_spec0 (l : List Int) (hl : l.length ≤ 140737488351232) : Spec Try.prog 33 [aIs l] (.r1 (aB (((List.range (l.length)).all fun k => !(!officeB (l.getD k 0) || decide ((k : Int) > 0) && decide (l.getD k 0 ≤ l.getD (k - 1) 0)))))) := by
  refine spec_of T_ok Try.func33 (by dsimp only [Try.f33]) rfl rfl (by simp) fun w F => ?_
  obtain ⟨Pk, hPk⟩ : ∃ Pk : Nat → Bool, Pk = fun k => !(!officeB (l.getD k 0) || decide ((k : Int) > 0) && decide (l.getD k 0 ≤ l.getD (k - 1) 0)) := ⟨_, rfl⟩
  rw [← hPk]
  obtain ⟨R, hR⟩ : ∃ R : Bool, R = ((List.range (l.length)).all Pk) := ⟨_, rfl⟩
  rw [← hR]
  repeat' (first
    | (with_reducible refine aw_seq ?_)
    | ((with_reducible refine twoG_intro ?_ ?_) <;> intro hTw <;> first | (exact Bool.noConfusion hTw) | ((try simp only [hTw, Bool.not_true, Bool.not_false, Bool.true_and, Bool.false_and, Bool.and_true, Bool.and_false, Bool.true_or, Bool.false_or, Bool.or_true, Bool.or_false]); (first | (guard_hyp hTw : true = true; clear hTw) | (guard_hyp hTw : false = false; clear hTw) | (revert hTw; intro _))))
    | ((with_reducible refine two_intro ?_ ?_) <;> intro hTw <;> first | (exact Bool.noConfusion hTw) | ((first | (guard_hyp hTw : true = true; clear hTw) | (guard_hyp hTw : false = false; clear hTw) | (revert hTw; intro _))))
    | ((with_reducible refine And.intro ?_ ?_); (focus (first | omega | rfl | decide | grind)))
    | (with_reducible refine aw_block ?_)
    | (with_reducible refine aw_scope ?_)
    | ((first
        | ((with_reducible refine aw_regionA T_ok ?_ ?_); (focus kernel_rfl))
        | ((with_reducible refine aw_drawnA T_ok ?_ ?_ ?_ ?_); (focus kernel_rfl); (focus kernel_rfl); (focus (decide +kernel)))
        | ((with_reducible refine aw_drawnF T_ok ?_ ?_ ?_ ?_); (focus kernel_rfl); (focus kernel_rfl); (focus (decide +kernel)))
        | (with_reducible refine aw_label ?_)
        | ((with_reducible refine aw_rfM ?_ ?_); (focus kernel_rfl))
        | (with_reducible refine aw_skip ?_)
        | (with_reducible refine aw_exit ?_)
        | ((with_reducible refine aw_condM ?_ ?_); (focus kernel_rfl))
        | (with_reducible refine aw_ret ?_)
      ); simp only [↓avP, avQ, if_true, if_false, forall_const, beq_self_eq_true, eq_self, ne_eq, implies_true, reduceIte, Nat.reduceEqDiff, Nat.reduceAdd, Nat.reduceSub, Int.reduceToNat, Nat.reduceLeDiff, Nat.reduceLT, reduceCtorEq, Int.reduceEq, retQ, retL, resV, RetV, RetOk, SubL, intD_B, lotD_B, flowD_B, snocI, ty_3, ty_27, ty_4, ty_24, ty_43, ty_22, ty_33, ← List.map_take, issD_get]; try simp (disch := omega) only [av_w, av_t1, av_tp, Int.toNat_natCast]))
  refine aw_loopI (fun k : Nat => ⟨[(0, vIs l), (3, vI k)], [], 0⟩) (fun k => k ≤ l.length ∧ ∀ i, i < k → Pk i = true) (fun k => l.length - k) 0 ⟨Nat.zero_le _, fun i hi => absurd hi (Nat.not_lt_zero i)⟩ (wk_of [] rfl rfl ?_ ?_) ?_
  · simp only [wkT, wkB, wkB1, subV, subVs, subD, subB, lkN_n, lkN_c, lkT_n, lkT_c, lkB_n, lkB_c, if_true, if_false, reduceIte, Nat.reduceEqDiff, true_and, and_true, and_self, inT, ofA]
    (repeat' (first | exact trivial | rfl | exact rfl | exact subVs_d _ _ | exact subVs_dm _ _ | exact subD_refl _ | refine And.intro ?_ ?_))
  · simp only [wkT, wkB, wkB1, subV, subVs, subD, subB, lkN_n, lkN_c, lkT_n, lkT_c, lkB_n, lkB_c, if_true, if_false, reduceIte, Nat.reduceEqDiff, true_and, and_true, and_self, inT, ofA]
    (repeat' (first | exact trivial | rfl | exact rfl | exact subVs_d _ _ | exact subVs_dm _ _ | exact subD_refl _ | refine And.intro ?_ ?_))
  rintro k ⟨hk, h0⟩
  rcases Nat.lt_or_ge k (l.length) with hlt | hge
  · have hd := ltd hlt
    cases hp : !officeB (l.getD k 0) || decide ((k : Int) > 0) && decide (l.getD k 0 ≤ l.getD (k - 1) 0) with
    | false =>
      repeat' (first
        | (with_reducible refine aw_seq ?_)
        | ((with_reducible refine twoG_intro ?_ ?_) <;> intro hTw <;> first | (exact Bool.noConfusion hTw) | ((try simp only [hTw, Bool.not_true, Bool.not_false, Bool.true_and, Bool.false_and, Bool.and_true, Bool.and_false, Bool.true_or, Bool.false_or, Bool.or_true, Bool.or_false]); (first | (guard_hyp hTw : true = true; clear hTw) | (guard_hyp hTw : false = false; clear hTw) | (revert hTw; intro _))))
        | ((with_reducible refine two_intro ?_ ?_) <;> intro hTw <;> first | (exact Bool.noConfusion hTw) | ((first | (guard_hyp hTw : true = true; clear hTw) | (guard_hyp hTw : false = false; clear hTw) | (revert hTw; intro _))))
        | ((with_reducible refine And.intro ?_ ?_); (focus (first | omega | rfl | decide | grind)))
        | (with_reducible refine aw_block ?_)
        | (with_reducible refine aw_scope ?_)
        | ((first
            | ((with_reducible refine aw_regionA T_ok ?_ ?_); (focus kernel_rfl))
            | ((with_reducible refine aw_drawnA T_ok ?_ ?_ ?_ ?_); (focus kernel_rfl); (focus kernel_rfl); (focus (decide +kernel)))
            | ((with_reducible refine aw_drawnF T_ok ?_ ?_ ?_ ?_); (focus kernel_rfl); (focus kernel_rfl); (focus (decide +kernel)))
            | ((with_reducible refine callK_intro (qoffice_spec (l.getD k 0)) (by with_unfolding_all rfl) ?_ ?_); (focus kernel_rfl))
            | ((with_reducible refine callI_spec (qoffice_spec (l.getD k 0)) (by with_unfolding_all rfl) ?_ ?_ ?_); (focus kernel_rfl); (focus kernel_rfl))
            | (with_reducible refine aw_label ?_)
            | ((with_reducible refine aw_rfM ?_ ?_); (focus kernel_rfl))
            | (with_reducible refine aw_skip ?_)
            | (with_reducible refine aw_exit ?_)
            | ((with_reducible refine aw_condM ?_ ?_); (focus kernel_rfl))
            | (with_reducible refine aw_ret ?_)
          ); simp only [↓avP, avQ, if_true, if_false, forall_const, beq_self_eq_true, eq_self, ne_eq, implies_true, reduceIte, Nat.reduceEqDiff, Nat.reduceAdd, Nat.reduceSub, Int.reduceToNat, Nat.reduceLeDiff, Nat.reduceLT, reduceCtorEq, Int.reduceEq, retQ, retL, resV, RetV, RetOk, SubL, intD_B, lotD_B, flowD_B, snocI, ty_3, ty_27, ty_4, ty_24, ty_43, ty_22, ty_33, ← List.map_take, issD_get, hd, hp]; try simp (disch := omega) only [av_w, av_t1, av_tp, Int.toNat_natCast]))
      refine ⟨k + 1, ⟨by omega, fun i hi => by rcases Nat.lt_succ_iff_lt_or_eq.1 hi with h | rfl; exact h0 i h; rw [hPk]; dsimp only; rw [hp]; rfl⟩, by dsimp only; omega, wk_of [] rfl rfl ?_ ?_⟩
      · simp only [wkT, wkB, wkB1, subV, subVs, subD, subB, lkN_n, lkN_c, lkT_n, lkT_c, lkB_n, lkB_c, if_true, if_false, reduceIte, Nat.reduceEqDiff, true_and, and_true, and_self, inT, ofA]
        (repeat' (first | exact trivial | rfl | exact rfl | exact subVs_d _ _ | exact subVs_dm _ _ | exact subD_refl _ | refine And.intro ?_ ?_))
      · simp only [wkT, wkB, wkB1, subV, subVs, subD, subB, lkN_n, lkN_c, lkT_n, lkT_c, lkB_n, lkB_c, if_true, if_false, reduceIte, Nat.reduceEqDiff, true_and, and_true, and_self, inT, ofA]
        (repeat' (first | exact trivial | rfl | exact rfl | exact subVs_d _ _ | exact subVs_dm _ _ | exact subD_refl _ | refine And.intro ?_ ?_))
    | true =>
      repeat' (first
        | (with_reducible refine aw_seq ?_)
        | ((with_reducible refine twoG_intro ?_ ?_) <;> intro hTw <;> first | (exact Bool.noConfusion hTw) | ((try simp only [hTw, Bool.not_true, Bool.not_false, Bool.true_and, Bool.false_and, Bool.and_true, Bool.and_false, Bool.true_or, Bool.false_or, Bool.or_true, Bool.or_false]); (first | (guard_hyp hTw : true = true; clear hTw) | (guard_hyp hTw : false = false; clear hTw) | (revert hTw; intro _))))
        | ((with_reducible refine two_intro ?_ ?_) <;> intro hTw <;> first | (exact Bool.noConfusion hTw) | ((first | (guard_hyp hTw : true = true; clear hTw) | (guard_hyp hTw : false = false; clear hTw) | (revert hTw; intro _))))
        | ((with_reducible refine And.intro ?_ ?_); (focus (first | omega | rfl | decide | grind)))
        | (with_reducible refine aw_block ?_)
        | (with_reducible refine aw_scope ?_)
        | ((first
            | ((with_reducible refine aw_regionA T_ok ?_ ?_); (focus kernel_rfl))
            | ((with_reducible refine aw_drawnA T_ok ?_ ?_ ?_ ?_); (focus kernel_rfl); (focus kernel_rfl); (focus (decide +kernel)))
            | ((with_reducible refine aw_drawnF T_ok ?_ ?_ ?_ ?_); (focus kernel_rfl); (focus kernel_rfl); (focus (decide +kernel)))
            | ((with_reducible refine callK_intro (qoffice_spec (l.getD k 0)) (by with_unfolding_all rfl) ?_ ?_); (focus kernel_rfl))
            | ((with_reducible refine callI_spec (qoffice_spec (l.getD k 0)) (by with_unfolding_all rfl) ?_ ?_ ?_); (focus kernel_rfl); (focus kernel_rfl))
            | (with_reducible refine aw_label ?_)
            | ((with_reducible refine aw_rfM ?_ ?_); (focus kernel_rfl))
            | (with_reducible refine aw_skip ?_)
            | (with_reducible refine aw_exit ?_)
            | ((with_reducible refine aw_condM ?_ ?_); (focus kernel_rfl))
            | (with_reducible refine aw_ret ?_)
          ); simp only [↓avP, avQ, if_true, if_false, forall_const, beq_self_eq_true, eq_self, ne_eq, implies_true, reduceIte, Nat.reduceEqDiff, Nat.reduceAdd, Nat.reduceSub, Int.reduceToNat, Nat.reduceLeDiff, Nat.reduceLT, reduceCtorEq, Int.reduceEq, retQ, retL, resV, RetV, RetOk, SubL, intD_B, lotD_B, flowD_B, snocI, ty_3, ty_27, ty_4, ty_24, ty_43, ty_22, ty_33, ← List.map_take, issD_get, hd, hp]; try simp (disch := omega) only [av_w, av_t1, av_tp, Int.toNat_natCast]))
      have hF : (List.range (l.length)).all Pk = false := all_fail hlt (by rw [hPk]; dsimp only; rw [hp]; rfl)
      exact Sub.of_eq (congrArg aB (by simp [hR, hF]))
  · obtain rfl : k = l.length := by omega
    have hd := ged (Nat.le_refl (l.length))
    have hT : (List.range (l.length)).all Pk = true := all_done h0
    repeat' (first
      | (with_reducible refine aw_seq ?_)
      | ((with_reducible refine twoG_intro ?_ ?_) <;> intro hTw <;> first | (exact Bool.noConfusion hTw) | ((try simp only [hTw, Bool.not_true, Bool.not_false, Bool.true_and, Bool.false_and, Bool.and_true, Bool.and_false, Bool.true_or, Bool.false_or, Bool.or_true, Bool.or_false]); (first | (guard_hyp hTw : true = true; clear hTw) | (guard_hyp hTw : false = false; clear hTw) | (revert hTw; intro _))))
      | ((with_reducible refine two_intro ?_ ?_) <;> intro hTw <;> first | (exact Bool.noConfusion hTw) | ((first | (guard_hyp hTw : true = true; clear hTw) | (guard_hyp hTw : false = false; clear hTw) | (revert hTw; intro _))))
      | ((with_reducible refine And.intro ?_ ?_); (focus (first | omega | rfl | decide | grind)))
      | (with_reducible refine aw_block ?_)
      | (with_reducible refine aw_scope ?_)
      | ((first
          | ((with_reducible refine aw_regionA T_ok ?_ ?_); (focus kernel_rfl))
          | ((with_reducible refine aw_drawnA T_ok ?_ ?_ ?_ ?_); (focus kernel_rfl); (focus kernel_rfl); (focus (decide +kernel)))
          | ((with_reducible refine aw_drawnF T_ok ?_ ?_ ?_ ?_); (focus kernel_rfl); (focus kernel_rfl); (focus (decide +kernel)))
          | (with_reducible refine aw_label ?_)
          | ((with_reducible refine aw_rfM ?_ ?_); (focus kernel_rfl))
          | (with_reducible refine aw_skip ?_)
          | (with_reducible refine aw_exit ?_)
          | ((with_reducible refine aw_condM ?_ ?_); (focus kernel_rfl))
          | (with_reducible refine aw_ret ?_)
        ); simp only [↓avP, avQ, if_true, if_false, forall_const, beq_self_eq_true, eq_self, ne_eq, implies_true, reduceIte, Nat.reduceEqDiff, Nat.reduceAdd, Nat.reduceSub, Int.reduceToNat, Nat.reduceLeDiff, Nat.reduceLT, reduceCtorEq, Int.reduceEq, retQ, retL, resV, RetV, RetOk, SubL, intD_B, lotD_B, flowD_B, snocI, ty_3, ty_27, ty_4, ty_24, ty_43, ty_22, ty_33, ← List.map_take, issD_get, hd]; try simp (disch := omega) only [av_w, av_t1, av_tp, Int.toNat_natCast]))
    exact Sub.of_eq (congrArg aB (by simp [hR, hT]))
def coalB (l : List Int) : Bool := (List.range l.length).all fun k => !(!officeB (l.getD k 0) || decide ((k : Int) > 0) && decide (l.getD k 0 ≤ l.getD (k - 1) 0))
theorem qcoal_spec (l : List Int) (hl : l.length ≤ 140737488351232) : Spec Try.prog 33 [aIs l] (.r1 (aB (coalB l))) := qcoal_spec0 l hl
def lineB (x : List Int) : Bool := decide (x.length ≠ 0) && diffB officeB x
def linesB (l : List (List Int)) (n : Nat) : Bool := l.all lineB && decide (l.length = n)
theorem qlines_spec (l : List (List Int)) (n : Nat) (hl : l.length ≤ 140737488351232) (hx : ∀ x ∈ l, x.length ≤ 140737488351232) : Spec Try.prog 32 [aIss l, aI n] (.r1 (aB (linesB l n))) := by
  refine spec_of T_ok Try.func32 (by dsimp only [Try.f32]) rfl rfl (by simp) fun w F => ?_
  obtain ⟨Pk, hPk⟩ : ∃ Pk : Nat → Bool, Pk = fun k => lineB (l.getD k []) := ⟨_, rfl⟩
  have hres : linesB l n = ((List.range l.length).all Pk && decide (l.length = n)) := by rw [linesB, hPk, has_all]
  repeat' (first
    | (with_reducible refine aw_seq ?_)
    | ((with_reducible refine twoG_intro ?_ ?_) <;> intro hTw <;> first | (exact Bool.noConfusion hTw) | ((try simp only [hTw, Bool.not_true, Bool.not_false, Bool.true_and, Bool.false_and, Bool.and_true, Bool.and_false, Bool.true_or, Bool.false_or, Bool.or_true, Bool.or_false]); (first | (guard_hyp hTw : true = true; clear hTw) | (guard_hyp hTw : false = false; clear hTw) | (revert hTw; intro _))))
    | ((with_reducible refine two_intro ?_ ?_) <;> intro hTw <;> first | (exact Bool.noConfusion hTw) | ((first | (guard_hyp hTw : true = true; clear hTw) | (guard_hyp hTw : false = false; clear hTw) | (revert hTw; intro _))))
    | ((with_reducible refine And.intro ?_ ?_); (focus (first | omega | rfl | decide | grind)))
    | (with_reducible refine aw_block ?_)
    | (with_reducible refine aw_scope ?_)
    | ((first
        | ((with_reducible refine aw_regionA T_ok ?_ ?_); (focus kernel_rfl))
        | ((with_reducible refine aw_drawnA T_ok ?_ ?_ ?_ ?_); (focus kernel_rfl); (focus kernel_rfl); (focus (decide +kernel)))
        | ((with_reducible refine aw_drawnF T_ok ?_ ?_ ?_ ?_); (focus kernel_rfl); (focus kernel_rfl); (focus (decide +kernel)))
        | (with_reducible refine aw_label ?_)
        | ((with_reducible refine aw_rfM ?_ ?_); (focus kernel_rfl))
        | (with_reducible refine aw_skip ?_)
        | (with_reducible refine aw_exit ?_)
        | ((with_reducible refine aw_condM ?_ ?_); (focus kernel_rfl))
        | (with_reducible refine aw_ret ?_)
      ); simp only [↓avP, avQ, if_true, if_false, forall_const, beq_self_eq_true, eq_self, ne_eq, implies_true, reduceIte, Nat.reduceEqDiff, Nat.reduceAdd, Nat.reduceSub, Int.reduceToNat, Nat.reduceLeDiff, Nat.reduceLT, reduceCtorEq, Int.reduceEq, retQ, retL, resV, RetV, RetOk, SubL, intD_B, lotD_B, flowD_B, snocI, ty_3, ty_27, ty_4, ty_24, ty_43, ty_22, ty_33, ← List.map_take, issD_get]; try simp (disch := omega) only [av_w, av_t1, av_tp, Int.toNat_natCast]))
  refine aw_loopI (fun k : Nat => ⟨[(0, vIss l), (1, vI n), (5, vI k)], [], 0⟩) (fun k => k ≤ l.length ∧ ∀ i, i < k → Pk i = true) (fun k => l.length - k) 0 ⟨Nat.zero_le _, fun i hi => absurd hi (Nat.not_lt_zero i)⟩ (wk_of [] rfl rfl ?_ ?_) ?_
  · simp only [wkT, wkB, wkB1, subV, subVs, subD, subB, lkN_n, lkN_c, lkT_n, lkT_c, lkB_n, lkB_c, if_true, if_false, reduceIte, Nat.reduceEqDiff, true_and, and_true, and_self, inT, ofA]
    (repeat' (first | exact trivial | rfl | exact rfl | exact subVs_d _ _ | exact subVs_dm _ _ | exact subD_refl _ | refine And.intro ?_ ?_))
  · simp only [wkT, wkB, wkB1, subV, subVs, subD, subB, lkN_n, lkN_c, lkT_n, lkT_c, lkB_n, lkB_c, if_true, if_false, reduceIte, Nat.reduceEqDiff, true_and, and_true, and_self, inT, ofA]
    (repeat' (first | exact trivial | rfl | exact rfl | exact subVs_d _ _ | exact subVs_dm _ _ | exact subD_refl _ | refine And.intro ?_ ?_))
  rintro k ⟨hk, h0⟩
  rcases Nat.lt_or_ge k l.length with hlt | hge
  · have hd := ltd hlt
    obtain ⟨x, hxd⟩ : ∃ x, x = l.getD k [] := ⟨_, rfl⟩
    have hxl : x.length ≤ 140737488351232 := by
      rw [hxd]
      have : l.getD k [] = l[k] := by simp [List.getD, hlt]
      rw [this]; exact hx _ (by simp)
    have hPd : Pk k = lineB x := by rw [hPk, hxd]
    have hD := qdifferent_spec x hxl
    have hbad : Pk k = false → linesB l n = false := fun h => by rw [hres, all_fail hlt h, Bool.false_and]
    by_cases h1 : x.length = 0
    · have hd1 : ((x.length : Int) == 0) = true := by rw [h1]; rfl
      repeat' (first
        | (with_reducible refine aw_seq ?_)
        | ((with_reducible refine twoG_intro ?_ ?_) <;> intro hTw <;> first | (exact Bool.noConfusion hTw) | ((try simp only [hTw, Bool.not_true, Bool.not_false, Bool.true_and, Bool.false_and, Bool.and_true, Bool.and_false, Bool.true_or, Bool.false_or, Bool.or_true, Bool.or_false]); (first | (guard_hyp hTw : true = true; clear hTw) | (guard_hyp hTw : false = false; clear hTw) | (revert hTw; intro _))))
        | ((with_reducible refine two_intro ?_ ?_) <;> intro hTw <;> first | (exact Bool.noConfusion hTw) | ((first | (guard_hyp hTw : true = true; clear hTw) | (guard_hyp hTw : false = false; clear hTw) | (revert hTw; intro _))))
        | ((with_reducible refine And.intro ?_ ?_); (focus (first | omega | rfl | decide | grind)))
        | (with_reducible refine aw_block ?_)
        | (with_reducible refine aw_scope ?_)
        | ((first
            | ((with_reducible refine aw_regionA T_ok ?_ ?_); (focus kernel_rfl))
            | ((with_reducible refine aw_drawnA T_ok ?_ ?_ ?_ ?_); (focus kernel_rfl); (focus kernel_rfl); (focus (decide +kernel)))
            | ((with_reducible refine aw_drawnF T_ok ?_ ?_ ?_ ?_); (focus kernel_rfl); (focus kernel_rfl); (focus (decide +kernel)))
            | ((with_reducible refine callK_intro (hD) (by with_unfolding_all rfl) ?_ ?_); (focus kernel_rfl))
            | ((with_reducible refine callI_spec (hD) (by with_unfolding_all rfl) ?_ ?_ ?_); (focus kernel_rfl); (focus kernel_rfl))
            | (with_reducible refine aw_label ?_)
            | ((with_reducible refine aw_rfM ?_ ?_); (focus kernel_rfl))
            | (with_reducible refine aw_skip ?_)
            | (with_reducible refine aw_exit ?_)
            | ((with_reducible refine aw_condM ?_ ?_); (focus kernel_rfl))
            | (with_reducible refine aw_ret ?_)
          ); simp only [↓avP, avQ, if_true, if_false, forall_const, beq_self_eq_true, eq_self, ne_eq, implies_true, reduceIte, Nat.reduceEqDiff, Nat.reduceAdd, Nat.reduceSub, Int.reduceToNat, Nat.reduceLeDiff, Nat.reduceLT, reduceCtorEq, Int.reduceEq, retQ, retL, resV, RetV, RetOk, SubL, intD_B, lotD_B, flowD_B, snocI, ty_3, ty_27, ty_4, ty_24, ty_43, ty_22, ty_33, ← List.map_take, issD_get, hd, ← hxd, hd1]; try simp (disch := omega) only [av_w, av_t1, av_tp, Int.toNat_natCast]))
      exact Sub.of_eq (congrArg aB (hbad (by rw [hPd, lineB, decide_eq_false (by omega), Bool.false_and])).symm)
    have hd1 : ((x.length : Int) == 0) = false := by simp; exact fun e => h1 (by rw [e]; rfl)
    by_cases h2 : x.Nodup
    rotate_left
    · have hd2 : decide x.Nodup = false := decide_eq_false h2
      repeat' (first
        | (with_reducible refine aw_seq ?_)
        | ((with_reducible refine twoG_intro ?_ ?_) <;> intro hTw <;> first | (exact Bool.noConfusion hTw) | ((try simp only [hTw, Bool.not_true, Bool.not_false, Bool.true_and, Bool.false_and, Bool.and_true, Bool.and_false, Bool.true_or, Bool.false_or, Bool.or_true, Bool.or_false]); (first | (guard_hyp hTw : true = true; clear hTw) | (guard_hyp hTw : false = false; clear hTw) | (revert hTw; intro _))))
        | ((with_reducible refine two_intro ?_ ?_) <;> intro hTw <;> first | (exact Bool.noConfusion hTw) | ((first | (guard_hyp hTw : true = true; clear hTw) | (guard_hyp hTw : false = false; clear hTw) | (revert hTw; intro _))))
        | ((with_reducible refine And.intro ?_ ?_); (focus (first | omega | rfl | decide | grind)))
        | (with_reducible refine aw_block ?_)
        | (with_reducible refine aw_scope ?_)
        | ((first
            | ((with_reducible refine aw_regionA T_ok ?_ ?_); (focus kernel_rfl))
            | ((with_reducible refine aw_drawnA T_ok ?_ ?_ ?_ ?_); (focus kernel_rfl); (focus kernel_rfl); (focus (decide +kernel)))
            | ((with_reducible refine aw_drawnF T_ok ?_ ?_ ?_ ?_); (focus kernel_rfl); (focus kernel_rfl); (focus (decide +kernel)))
            | ((with_reducible refine callK_intro (hD) (by with_unfolding_all rfl) ?_ ?_); (focus kernel_rfl))
            | ((with_reducible refine callI_spec (hD) (by with_unfolding_all rfl) ?_ ?_ ?_); (focus kernel_rfl); (focus kernel_rfl))
            | (with_reducible refine aw_label ?_)
            | ((with_reducible refine aw_rfM ?_ ?_); (focus kernel_rfl))
            | (with_reducible refine aw_skip ?_)
            | (with_reducible refine aw_exit ?_)
            | ((with_reducible refine aw_condM ?_ ?_); (focus kernel_rfl))
            | (with_reducible refine aw_ret ?_)
          ); simp only [↓avP, avQ, if_true, if_false, forall_const, beq_self_eq_true, eq_self, ne_eq, implies_true, reduceIte, Nat.reduceEqDiff, Nat.reduceAdd, Nat.reduceSub, Int.reduceToNat, Nat.reduceLeDiff, Nat.reduceLT, reduceCtorEq, Int.reduceEq, retQ, retL, resV, RetV, RetOk, SubL, intD_B, lotD_B, flowD_B, snocI, ty_3, ty_27, ty_4, ty_24, ty_43, ty_22, ty_33, ← List.map_take, issD_get, hd, ← hxd, hd1, hd2]; try simp (disch := omega) only [av_w, av_t1, av_tp, Int.toNat_natCast]))
      exact Sub.of_eq (congrArg aB (hbad (by rw [hPd, lineB, diffB, hd2]; simp)).symm)
    have hd2 : decide x.Nodup = true := decide_eq_true h2
    have hPx : Pk k = x.all officeB := by rw [hPd, lineB, diffB, hd2, decide_eq_true h1]; simp
    rw [← range_all x officeB] at hPx
    repeat' (first
      | (with_reducible refine aw_seq ?_)
      | ((with_reducible refine twoG_intro ?_ ?_) <;> intro hTw <;> first | (exact Bool.noConfusion hTw) | ((try simp only [hTw, Bool.not_true, Bool.not_false, Bool.true_and, Bool.false_and, Bool.and_true, Bool.and_false, Bool.true_or, Bool.false_or, Bool.or_true, Bool.or_false]); (first | (guard_hyp hTw : true = true; clear hTw) | (guard_hyp hTw : false = false; clear hTw) | (revert hTw; intro _))))
      | ((with_reducible refine two_intro ?_ ?_) <;> intro hTw <;> first | (exact Bool.noConfusion hTw) | ((first | (guard_hyp hTw : true = true; clear hTw) | (guard_hyp hTw : false = false; clear hTw) | (revert hTw; intro _))))
      | ((with_reducible refine And.intro ?_ ?_); (focus (first | omega | rfl | decide | grind)))
      | (with_reducible refine aw_block ?_)
      | (with_reducible refine aw_scope ?_)
      | ((first
          | ((with_reducible refine aw_regionA T_ok ?_ ?_); (focus kernel_rfl))
          | ((with_reducible refine aw_drawnA T_ok ?_ ?_ ?_ ?_); (focus kernel_rfl); (focus kernel_rfl); (focus (decide +kernel)))
          | ((with_reducible refine aw_drawnF T_ok ?_ ?_ ?_ ?_); (focus kernel_rfl); (focus kernel_rfl); (focus (decide +kernel)))
          | ((with_reducible refine callK_intro (hD) (by with_unfolding_all rfl) ?_ ?_); (focus kernel_rfl))
          | ((with_reducible refine callI_spec (hD) (by with_unfolding_all rfl) ?_ ?_ ?_); (focus kernel_rfl); (focus kernel_rfl))
          | (with_reducible refine aw_label ?_)
          | ((with_reducible refine aw_rfM ?_ ?_); (focus kernel_rfl))
          | (with_reducible refine aw_skip ?_)
          | (with_reducible refine aw_exit ?_)
          | ((with_reducible refine aw_condM ?_ ?_); (focus kernel_rfl))
          | (with_reducible refine aw_ret ?_)
        ); simp only [↓avP, avQ, if_true, if_false, forall_const, beq_self_eq_true, eq_self, ne_eq, implies_true, reduceIte, Nat.reduceEqDiff, Nat.reduceAdd, Nat.reduceSub, Int.reduceToNat, Nat.reduceLeDiff, Nat.reduceLT, reduceCtorEq, Int.reduceEq, retQ, retL, resV, RetV, RetOk, SubL, intD_B, lotD_B, flowD_B, snocI, ty_3, ty_27, ty_4, ty_24, ty_43, ty_22, ty_33, ← List.map_take, issD_get, hd, ← hxd, hd1, hd2]; try simp (disch := omega) only [av_w, av_t1, av_tp, Int.toNat_natCast]))
    refine aw_loopI (fun j : Nat => ⟨[(0, vIss l), (1, vI n), (5, vI k), (6, vI j)], [], 0⟩) (fun j => j ≤ x.length ∧ ∀ i, i < j → (fun i => officeB (x.getD i 0)) i = true) (fun j => x.length - j) 0 ⟨Nat.zero_le _, fun i hi => absurd hi (Nat.not_lt_zero i)⟩ (wk_of [] rfl rfl ?_ ?_) ?_
    · simp only [wkT, wkB, wkB1, subV, subVs, subD, subB, lkN_n, lkN_c, lkT_n, lkT_c, lkB_n, lkB_c, if_true, if_false, reduceIte, Nat.reduceEqDiff, true_and, and_true, and_self, inT, ofA]
      (repeat' (first | exact trivial | rfl | exact rfl | exact subVs_d _ _ | exact subVs_dm _ _ | exact subD_refl _ | refine And.intro ?_ ?_))
    · simp only [wkT, wkB, wkB1, subV, subVs, subD, subB, lkN_n, lkN_c, lkT_n, lkT_c, lkB_n, lkB_c, if_true, if_false, reduceIte, Nat.reduceEqDiff, true_and, and_true, and_self, inT, ofA]
      (repeat' (first | exact trivial | rfl | exact rfl | exact subVs_d _ _ | exact subVs_dm _ _ | exact subD_refl _ | refine And.intro ?_ ?_))
    rintro j ⟨hj, h0'⟩
    rcases Nat.lt_or_ge j x.length with hjlt | hjge
    · have hd3 := ltd hjlt
      cases hp : officeB (x.getD j 0) with
      | true =>
        repeat' (first
          | (with_reducible refine aw_seq ?_)
          | ((with_reducible refine twoG_intro ?_ ?_) <;> intro hTw <;> first | (exact Bool.noConfusion hTw) | ((try simp only [hTw, Bool.not_true, Bool.not_false, Bool.true_and, Bool.false_and, Bool.and_true, Bool.and_false, Bool.true_or, Bool.false_or, Bool.or_true, Bool.or_false]); (first | (guard_hyp hTw : true = true; clear hTw) | (guard_hyp hTw : false = false; clear hTw) | (revert hTw; intro _))))
          | ((with_reducible refine two_intro ?_ ?_) <;> intro hTw <;> first | (exact Bool.noConfusion hTw) | ((first | (guard_hyp hTw : true = true; clear hTw) | (guard_hyp hTw : false = false; clear hTw) | (revert hTw; intro _))))
          | ((with_reducible refine And.intro ?_ ?_); (focus (first | omega | rfl | decide | grind)))
          | (with_reducible refine aw_block ?_)
          | (with_reducible refine aw_scope ?_)
          | ((first
              | ((with_reducible refine aw_regionA T_ok ?_ ?_); (focus kernel_rfl))
              | ((with_reducible refine aw_drawnA T_ok ?_ ?_ ?_ ?_); (focus kernel_rfl); (focus kernel_rfl); (focus (decide +kernel)))
              | ((with_reducible refine aw_drawnF T_ok ?_ ?_ ?_ ?_); (focus kernel_rfl); (focus kernel_rfl); (focus (decide +kernel)))
              | ((with_reducible refine callK_intro (qoffice_spec (x.getD j 0)) (by with_unfolding_all rfl) ?_ ?_); (focus kernel_rfl))
              | ((with_reducible refine callI_spec (qoffice_spec (x.getD j 0)) (by with_unfolding_all rfl) ?_ ?_ ?_); (focus kernel_rfl); (focus kernel_rfl))
              | (with_reducible refine aw_label ?_)
              | ((with_reducible refine aw_rfM ?_ ?_); (focus kernel_rfl))
              | (with_reducible refine aw_skip ?_)
              | (with_reducible refine aw_exit ?_)
              | ((with_reducible refine aw_condM ?_ ?_); (focus kernel_rfl))
              | (with_reducible refine aw_ret ?_)
            ); simp only [↓avP, avQ, if_true, if_false, forall_const, beq_self_eq_true, eq_self, ne_eq, implies_true, reduceIte, Nat.reduceEqDiff, Nat.reduceAdd, Nat.reduceSub, Int.reduceToNat, Nat.reduceLeDiff, Nat.reduceLT, reduceCtorEq, Int.reduceEq, retQ, retL, resV, RetV, RetOk, SubL, intD_B, lotD_B, flowD_B, snocI, ty_3, ty_27, ty_4, ty_24, ty_43, ty_22, ty_33, ← List.map_take, issD_get, hd, ← hxd, hd3, hp]; try simp (disch := omega) only [av_w, av_t1, av_tp, Int.toNat_natCast]))
        refine ⟨j + 1, ⟨by omega, fun i hi => by rcases Nat.lt_succ_iff_lt_or_eq.1 hi with h | rfl; exact h0' i h; exact hp⟩, by dsimp only; omega, wk_of [] rfl rfl ?_ ?_⟩
        · simp only [wkT, wkB, wkB1, subV, subVs, subD, subB, lkN_n, lkN_c, lkT_n, lkT_c, lkB_n, lkB_c, if_true, if_false, reduceIte, Nat.reduceEqDiff, true_and, and_true, and_self, inT, ofA]
          (repeat' (first | exact trivial | rfl | exact rfl | exact subVs_d _ _ | exact subVs_dm _ _ | exact subD_refl _ | refine And.intro ?_ ?_))
        · simp only [wkT, wkB, wkB1, subV, subVs, subD, subB, lkN_n, lkN_c, lkT_n, lkT_c, lkB_n, lkB_c, if_true, if_false, reduceIte, Nat.reduceEqDiff, true_and, and_true, and_self, inT, ofA]
      | false =>
        repeat' (first
          | (with_reducible refine aw_seq ?_)
          | ((with_reducible refine twoG_intro ?_ ?_) <;> intro hTw <;> first | (exact Bool.noConfusion hTw) | ((try simp only [hTw, Bool.not_true, Bool.not_false, Bool.true_and, Bool.false_and, Bool.and_true, Bool.and_false, Bool.true_or, Bool.false_or, Bool.or_true, Bool.or_false]); (first | (guard_hyp hTw : true = true; clear hTw) | (guard_hyp hTw : false = false; clear hTw) | (revert hTw; intro _))))
          | ((with_reducible refine two_intro ?_ ?_) <;> intro hTw <;> first | (exact Bool.noConfusion hTw) | ((first | (guard_hyp hTw : true = true; clear hTw) | (guard_hyp hTw : false = false; clear hTw) | (revert hTw; intro _))))
          | ((with_reducible refine And.intro ?_ ?_); (focus (first | omega | rfl | decide | grind)))
          | (with_reducible refine aw_block ?_)
          | (with_reducible refine aw_scope ?_)
          | ((first
              | ((with_reducible refine aw_regionA T_ok ?_ ?_); (focus kernel_rfl))
              | ((with_reducible refine aw_drawnA T_ok ?_ ?_ ?_ ?_); (focus kernel_rfl); (focus kernel_rfl); (focus (decide +kernel)))
              | ((with_reducible refine aw_drawnF T_ok ?_ ?_ ?_ ?_); (focus kernel_rfl); (focus kernel_rfl); (focus (decide +kernel)))
              | ((with_reducible refine callK_intro (qoffice_spec (x.getD j 0)) (by with_unfolding_all rfl) ?_ ?_); (focus kernel_rfl))
              | ((with_reducible refine callI_spec (qoffice_spec (x.getD j 0)) (by with_unfolding_all rfl) ?_ ?_ ?_); (focus kernel_rfl); (focus kernel_rfl))
              | (with_reducible refine aw_label ?_)
              | ((with_reducible refine aw_rfM ?_ ?_); (focus kernel_rfl))
              | (with_reducible refine aw_skip ?_)
              | (with_reducible refine aw_exit ?_)
              | ((with_reducible refine aw_condM ?_ ?_); (focus kernel_rfl))
              | (with_reducible refine aw_ret ?_)
            ); simp only [↓avP, avQ, if_true, if_false, forall_const, beq_self_eq_true, eq_self, ne_eq, implies_true, reduceIte, Nat.reduceEqDiff, Nat.reduceAdd, Nat.reduceSub, Int.reduceToNat, Nat.reduceLeDiff, Nat.reduceLT, reduceCtorEq, Int.reduceEq, retQ, retL, resV, RetV, RetOk, SubL, intD_B, lotD_B, flowD_B, snocI, ty_3, ty_27, ty_4, ty_24, ty_43, ty_22, ty_33, ← List.map_take, issD_get, hd, ← hxd, hd3, hp]; try simp (disch := omega) only [av_w, av_t1, av_tp, Int.toNat_natCast]))
        exact Sub.of_eq (congrArg aB (hbad (by rw [hPx, all_fail hjlt hp])).symm)
    · obtain rfl : j = x.length := by omega
      have hd3 := ged (Nat.le_refl x.length)
      have hTk : Pk k = true := by rw [hPx, all_done h0']
      repeat' (first
        | (with_reducible refine aw_seq ?_)
        | ((with_reducible refine twoG_intro ?_ ?_) <;> intro hTw <;> first | (exact Bool.noConfusion hTw) | ((try simp only [hTw, Bool.not_true, Bool.not_false, Bool.true_and, Bool.false_and, Bool.and_true, Bool.and_false, Bool.true_or, Bool.false_or, Bool.or_true, Bool.or_false]); (first | (guard_hyp hTw : true = true; clear hTw) | (guard_hyp hTw : false = false; clear hTw) | (revert hTw; intro _))))
        | ((with_reducible refine two_intro ?_ ?_) <;> intro hTw <;> first | (exact Bool.noConfusion hTw) | ((first | (guard_hyp hTw : true = true; clear hTw) | (guard_hyp hTw : false = false; clear hTw) | (revert hTw; intro _))))
        | ((with_reducible refine And.intro ?_ ?_); (focus (first | omega | rfl | decide | grind)))
        | (with_reducible refine aw_block ?_)
        | (with_reducible refine aw_scope ?_)
        | ((first
            | ((with_reducible refine aw_regionA T_ok ?_ ?_); (focus kernel_rfl))
            | ((with_reducible refine aw_drawnA T_ok ?_ ?_ ?_ ?_); (focus kernel_rfl); (focus kernel_rfl); (focus (decide +kernel)))
            | ((with_reducible refine aw_drawnF T_ok ?_ ?_ ?_ ?_); (focus kernel_rfl); (focus kernel_rfl); (focus (decide +kernel)))
            | (with_reducible refine aw_label ?_)
            | ((with_reducible refine aw_rfM ?_ ?_); (focus kernel_rfl))
            | (with_reducible refine aw_skip ?_)
            | (with_reducible refine aw_exit ?_)
            | ((with_reducible refine aw_condM ?_ ?_); (focus kernel_rfl))
            | (with_reducible refine aw_ret ?_)
          ); simp only [↓avP, avQ, if_true, if_false, forall_const, beq_self_eq_true, eq_self, ne_eq, implies_true, reduceIte, Nat.reduceEqDiff, Nat.reduceAdd, Nat.reduceSub, Int.reduceToNat, Nat.reduceLeDiff, Nat.reduceLT, reduceCtorEq, Int.reduceEq, retQ, retL, resV, RetV, RetOk, SubL, intD_B, lotD_B, flowD_B, snocI, ty_3, ty_27, ty_4, ty_24, ty_43, ty_22, ty_33, ← List.map_take, issD_get, hd, ← hxd, hd3]; try simp (disch := omega) only [av_w, av_t1, av_tp, Int.toNat_natCast]))
      refine ⟨k + 1, ⟨by omega, fun i hi => by rcases Nat.lt_succ_iff_lt_or_eq.1 hi with h | rfl; exact h0 i h; exact hTk⟩, by dsimp only; omega, wk_of [] rfl rfl ?_ ?_⟩
      · simp only [wkT, wkB, wkB1, subV, subVs, subD, subB, lkN_n, lkN_c, lkT_n, lkT_c, lkB_n, lkB_c, if_true, if_false, reduceIte, Nat.reduceEqDiff, true_and, and_true, and_self, inT, ofA]
        (repeat' (first | exact trivial | rfl | exact rfl | exact subVs_d _ _ | exact subVs_dm _ _ | exact subD_refl _ | refine And.intro ?_ ?_))
      · simp only [wkT, wkB, wkB1, subV, subVs, subD, subB, lkN_n, lkN_c, lkT_n, lkT_c, lkB_n, lkB_c, if_true, if_false, reduceIte, Nat.reduceEqDiff, true_and, and_true, and_self, inT, ofA]
  · obtain rfl : k = l.length := by omega
    have hd := ged (Nat.le_refl l.length)
    repeat' (first
      | (with_reducible refine aw_seq ?_)
      | ((with_reducible refine twoG_intro ?_ ?_) <;> intro hTw <;> first | (exact Bool.noConfusion hTw) | ((try simp only [hTw, Bool.not_true, Bool.not_false, Bool.true_and, Bool.false_and, Bool.and_true, Bool.and_false, Bool.true_or, Bool.false_or, Bool.or_true, Bool.or_false]); (first | (guard_hyp hTw : true = true; clear hTw) | (guard_hyp hTw : false = false; clear hTw) | (revert hTw; intro _))))
      | ((with_reducible refine two_intro ?_ ?_) <;> intro hTw <;> first | (exact Bool.noConfusion hTw) | ((first | (guard_hyp hTw : true = true; clear hTw) | (guard_hyp hTw : false = false; clear hTw) | (revert hTw; intro _))))
      | ((with_reducible refine And.intro ?_ ?_); (focus (first | omega | rfl | decide | grind)))
      | (with_reducible refine aw_block ?_)
      | (with_reducible refine aw_scope ?_)
      | ((first
          | ((with_reducible refine aw_regionA T_ok ?_ ?_); (focus kernel_rfl))
          | ((with_reducible refine aw_drawnA T_ok ?_ ?_ ?_ ?_); (focus kernel_rfl); (focus kernel_rfl); (focus (decide +kernel)))
          | ((with_reducible refine aw_drawnF T_ok ?_ ?_ ?_ ?_); (focus kernel_rfl); (focus kernel_rfl); (focus (decide +kernel)))
          | (with_reducible refine aw_label ?_)
          | ((with_reducible refine aw_rfM ?_ ?_); (focus kernel_rfl))
          | (with_reducible refine aw_skip ?_)
          | (with_reducible refine aw_exit ?_)
          | ((with_reducible refine aw_condM ?_ ?_); (focus kernel_rfl))
          | (with_reducible refine aw_ret ?_)
        ); simp only [↓avP, avQ, if_true, if_false, forall_const, beq_self_eq_true, eq_self, ne_eq, implies_true, reduceIte, Nat.reduceEqDiff, Nat.reduceAdd, Nat.reduceSub, Int.reduceToNat, Nat.reduceLeDiff, Nat.reduceLT, reduceCtorEq, Int.reduceEq, retQ, retL, resV, RetV, RetOk, SubL, intD_B, lotD_B, flowD_B, snocI, ty_3, ty_27, ty_4, ty_24, ty_43, ty_22, ty_33, ← List.map_take, issD_get, hd]; try simp (disch := omega) only [av_w, av_t1, av_tp, Int.toNat_natCast]))
    exact Sub.of_eq (congrArg aB (by rw [hres, all_done h0, Bool.true_and, Bool.eq_iff_iff]; simp; omega))
end Go.Proofs.Ytfndjciojljkfaa

