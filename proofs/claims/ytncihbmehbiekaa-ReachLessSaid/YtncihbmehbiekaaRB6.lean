import Derived.Test.YtncihbmehbiekaaRB5
namespace Go.Proofs.Ytncihbmehbiekaa
set_option linter.unusedSimpArgs false
set_option linter.unusedVariables false
open Go.RowKit
abbrev issD (x : List Int) : List D := [.sl 1 (intD 0) (x.map intD)]
abbrev aIss (l : List (List Int)) : A := .one (.sl 1 (issD []) (l.map issD))
abbrev vIss (l : List (List Int)) : V := .d (.sl 1 (issD []) (l.map issD))
set_option maxRecDepth 100000
set_option maxHeartbeats 4000000
theorem issD_get (l : List (List Int)) (k : Nat) : (l.map issD).getD k (issD []) = issD (l.getD k []) := by
  rw [List.getD, List.getD, List.getElem?_map]
  cases l[k]? <;> rfl
theorem has_all (l : List (List Int)) (P : List Int → Bool) : ((List.range l.length).all fun k => P (l.getD k [])) = l.all P := by
  rw [Bool.eq_iff_iff, List.all_eq_true, List.all_eq_true]
  constructor
  · intro h x hx
    obtain ⟨i, hi, rfl⟩ := List.getElem_of_mem hx
    have := h i (by simpa using hi)
    simpa [List.getD, hi] using this
  · intro h i hi
    have hi : i < l.length := by simpa using hi
    have : l.getD i [] = l[i] := by simp [List.getD, hi]
    rw [this]
    exact h _ (by simp)
theorem qcoal_spec0 (l : List Int) (hl : l.length ≤ 140737488351232) : Spec Try.prog 28 [aIs l] (.r1 (aB (((List.range (l.length)).all fun k => !(!officeB (l.getD k 0) || decide ((k : Int) > 0) && decide (l.getD k 0 ≤ l.getD (k - 1) 0)))))) := by
  refine spec_of T_ok Try.func28 (by dsimp only [Try.f28]) rfl rfl (by simp) fun w F => ?_
  obtain ⟨Pk, hPk⟩ : ∃ Pk : Nat → Bool, Pk = fun k => !(!officeB (l.getD k 0) || decide ((k : Int) > 0) && decide (l.getD k 0 ≤ l.getD (k - 1) 0)) := ⟨_, rfl⟩
  rw [← hPk]
  obtain ⟨R, hR⟩ : ∃ R : Bool, R = ((List.range (l.length)).all Pk) := ⟨_, rfl⟩
  rw [← hR]
  repeat' (first
    | (with_reducible refine aw_seq ?_)
    | ((with_reducible refine twoG_intro ?_ ?_) <;> intro hTw <;> first | (exact Bool.noConfusion hTw) | ((try simp only [hTw, Bool.not_true, Bool.not_false, Bool.true_and, Bool.false_and, Bool.and_true, Bool.and_false, Bool.true_or, Bool.false_or, Bool.or_true, Bool.or_false]); (first | (guard_hyp hTw : true = true; clear hTw) | (guard_hyp hTw : false = false; clear hTw) | (revert hTw; intro _))))
    | ((with_reducible refine two_intro ?_ ?_) <;> intro hTw <;> first | (exact Bool.noConfusion hTw) | ((first | (guard_hyp hTw : true = true; clear hTw) | (guard_hyp hTw : false = false; clear hTw) | (revert hTw; intro _))))
    | ((with_reducible refine And.intro ?_ ?_); (focus (first | omega | rfl | decide | grind)))
    | (with_reducible refine aw_block ?_)
    | (with_reducible refine aw_scope ?_)
    | ((first
        | ((with_reducible refine aw_regionA T_ok ?_ ?_); (focus kernel_rfl))
        | ((with_reducible refine aw_drawnA T_ok ?_ ?_ ?_ ?_); (focus kernel_rfl); (focus kernel_rfl); (focus (decide +kernel)))
        | ((with_reducible refine aw_drawnF T_ok ?_ ?_ ?_ ?_); (focus kernel_rfl); (focus kernel_rfl); (focus (decide +kernel)))
        | (with_reducible refine aw_label ?_)
        | ((with_reducible refine aw_rfM ?_ ?_); (focus kernel_rfl))
        | (with_reducible refine aw_skip ?_)
        | (with_reducible refine aw_exit ?_)
        | ((with_reducible refine aw_condM ?_ ?_); (focus kernel_rfl))
        | (with_reducible refine aw_ret ?_)
      ); simp only [↓avP, avQ, if_true, if_false, forall_const, beq_self_eq_true, eq_self, ne_eq, implies_true, reduceIte, Nat.reduceEqDiff, Nat.reduceAdd, Nat.reduceSub, Int.reduceToNat, Nat.reduceLeDiff, Nat.reduceLT, reduceCtorEq, Int.reduceEq, retQ, retL, resV, RetV, RetOk, SubL, intD_B, lotD_B, flowD_B, snocI, ty_3, ty_27, ty_4, ty_24, ty_40, ty_22, ty_31, ← List.map_take, issD_get]; try simp (disch := omega) only [av_w, av_t1, av_tp, Int.toNat_natCast]))
  refine aw_loopI (fun k : Nat => ⟨[(0, vIs l), (3, vI k)], [], 0⟩) (fun k => k ≤ l.length ∧ ∀ i, i < k → Pk i = true) (fun k => l.length - k) 0 ⟨Nat.zero_le _, fun i hi => absurd hi (Nat.not_lt_zero i)⟩ (wk_of [] rfl rfl ?_ ?_) ?_
  · simp only [wkT, wkB, wkB1, subV, subVs, subD, subB, lkN_n, lkN_c, lkT_n, lkT_c, lkB_n, lkB_c, if_true, if_false, reduceIte, Nat.reduceEqDiff, true_and, and_true, and_self, inT, ofA]
    (repeat' (first | exact trivial | rfl | exact rfl | exact subVs_d _ _ | exact subVs_dm _ _ | exact subD_refl _ | refine And.intro ?_ ?_))
  · simp only [wkT, wkB, wkB1, subV, subVs, subD, subB, lkN_n, lkN_c, lkT_n, lkT_c, lkB_n, lkB_c, if_true, if_false, reduceIte, Nat.reduceEqDiff, true_and, and_true, and_self, inT, ofA]
    (repeat' (first | exact trivial | rfl | exact rfl | exact subVs_d _ _ | exact subVs_dm _ _ | exact subD_refl _ | refine And.intro ?_ ?_))
  rintro k ⟨hk, h0⟩
  rcases Nat.lt_or_ge k (l.length) with hlt | hge
  · have hd := ltd hlt
    cases hp : !officeB (l.getD k 0) || decide ((k : Int) > 0) && decide (l.getD k 0 ≤ l.getD (k - 1) 0) with
    | false =>
      repeat' (first
        | (with_reducible refine aw_seq ?_)
        | ((with_reducible refine twoG_intro ?_ ?_) <;> intro hTw <;> first | (exact Bool.noConfusion hTw) | ((try simp only [hTw, Bool.not_true, Bool.not_false, Bool.true_and, Bool.false_and, Bool.and_true, Bool.and_false, Bool.true_or, Bool.false_or, Bool.or_true, Bool.or_false]); (first | (guard_hyp hTw : true = true; clear hTw) | (guard_hyp hTw : false = false; clear hTw) | (revert hTw; intro _))))
        | ((with_reducible refine two_intro ?_ ?_) <;> intro hTw <;> first | (exact Bool.noConfusion hTw) | ((first | (guard_hyp hTw : true = true; clear hTw) | (guard_hyp hTw : false = false; clear hTw) | (revert hTw; intro _))))
        | ((with_reducible refine And.intro ?_ ?_); (focus (first | omega | rfl | decide | grind)))
        | (with_reducible refine aw_block ?_)
        | (with_reducible refine aw_scope ?_)
        | ((first
            | ((with_reducible refine aw_regionA T_ok ?_ ?_); (focus kernel_rfl))
            | ((with_reducible refine aw_drawnA T_ok ?_ ?_ ?_ ?_); (focus kernel_rfl); (focus kernel_rfl); (focus (decide +kernel)))
            | ((with_reducible refine aw_drawnF T_ok ?_ ?_ ?_ ?_); (focus kernel_rfl); (focus kernel_rfl); (focus (decide +kernel)))
            | ((with_reducible refine callK_intro (qoffice_spec (l.getD k 0)) (by with_unfolding_all rfl) ?_ ?_); (focus kernel_rfl))
            | ((with_reducible refine callI_spec (qoffice_spec (l.getD k 0)) (by with_unfolding_all rfl) ?_ ?_ ?_); (focus kernel_rfl); (focus kernel_rfl))
            | (with_reducible refine aw_label ?_)
            | ((with_reducible refine aw_rfM ?_ ?_); (focus kernel_rfl))
            | (with_reducible refine aw_skip ?_)
            | (with_reducible refine aw_exit ?_)
            | ((with_reducible refine aw_condM ?_ ?_); (focus kernel_rfl))
            | (with_reducible refine aw_ret ?_)
          ); simp only [↓avP, avQ, if_true, if_false, forall_const, beq_self_eq_true, eq_self, ne_eq, implies_true, reduceIte, Nat.reduceEqDiff, Nat.reduceAdd, Nat.reduceSub, Int.reduceToNat, Nat.reduceLeDiff, Nat.reduceLT, reduceCtorEq, Int.reduceEq, retQ, retL, resV, RetV, RetOk, SubL, intD_B, lotD_B, flowD_B, snocI, ty_3, ty_27, ty_4, ty_24, ty_40, ty_22, ty_31, ← List.map_take, issD_get, hd, hp]; try simp (disch := omega) only [av_w, av_t1, av_tp, Int.toNat_natCast]))
      refine ⟨k + 1, ⟨by omega, fun i hi => by rcases Nat.lt_succ_iff_lt_or_eq.1 hi with h | rfl; exact h0 i h; rw [hPk]; dsimp only; rw [hp]; rfl⟩, by dsimp only; omega, wk_of [] rfl rfl ?_ ?_⟩
      · simp only [wkT, wkB, wkB1, subV, subVs, subD, subB, lkN_n, lkN_c, lkT_n, lkT_c, lkB_n, lkB_c, if_true, if_false, reduceIte, Nat.reduceEqDiff, true_and, and_true, and_self, inT, ofA]
        (repeat' (first | exact trivial | rfl | exact rfl | exact subVs_d _ _ | exact subVs_dm _ _ | exact subD_refl _ | refine And.intro ?_ ?_))
      · simp only [wkT, wkB, wkB1, subV, subVs, subD, subB, lkN_n, lkN_c, lkT_n, lkT_c, lkB_n, lkB_c, if_true, if_false, reduceIte, Nat.reduceEqDiff, true_and, and_true, and_self, inT, ofA]
        (repeat' (first | exact trivial | rfl | exact rfl | exact subVs_d _ _ | exact subVs_dm _ _ | exact subD_refl _ | refine And.intro ?_ ?_))
    | true =>
      repeat' (first
        | (with_reducible refine aw_seq ?_)
        | ((with_reducible refine twoG_intro ?_ ?_) <;> intro hTw <;> first | (exact Bool.noConfusion hTw) | ((try simp only [hTw, Bool.not_true, Bool.not_false, Bool.true_and, Bool.false_and, Bool.and_true, Bool.and_false, Bool.true_or, Bool.false_or, Bool.or_true, Bool.or_false]); (first | (guard_hyp hTw : true = true; clear hTw) | (guard_hyp hTw : false = false; clear hTw) | (revert hTw; intro _))))
        | ((with_reducible refine two_intro ?_ ?_) <;> intro hTw <;> first | (exact Bool.noConfusion hTw) | ((first | (guard_hyp hTw : true = true; clear hTw) | (guard_hyp hTw : false = false; clear hTw) | (revert hTw; intro _))))
        | ((with_reducible refine And.intro ?_ ?_); (focus (first | omega | rfl | decide | grind)))
        | (with_reducible refine aw_block ?_)
        | (with_reducible refine aw_scope ?_)
        | ((first
            | ((with_reducible refine aw_regionA T_ok ?_ ?_); (focus kernel_rfl))
            | ((with_reducible refine aw_drawnA T_ok ?_ ?_ ?_ ?_); (focus kernel_rfl); (focus kernel_rfl); (focus (decide +kernel)))
            | ((with_reducible refine aw_drawnF T_ok ?_ ?_ ?_ ?_); (focus kernel_rfl); (focus kernel_rfl); (focus (decide +kernel)))
            | ((with_reducible refine callK_intro (qoffice_spec (l.getD k 0)) (by with_unfolding_all rfl) ?_ ?_); (focus kernel_rfl))
            | ((with_reducible refine callI_spec (qoffice_spec (l.getD k 0)) (by with_unfolding_all rfl) ?_ ?_ ?_); (focus kernel_rfl); (focus kernel_rfl))
            | (with_reducible refine aw_label ?_)
            | ((with_reducible refine aw_rfM ?_ ?_); (focus kernel_rfl))
            | (with_reducible refine aw_skip ?_)
            | (with_reducible refine aw_exit ?_)
            | ((with_reducible refine aw_condM ?_ ?_); (focus kernel_rfl))
            | (with_reducible refine aw_ret ?_)
          ); simp only [↓avP, avQ, if_true, if_false, forall_const, beq_self_eq_true, eq_self, ne_eq, implies_true, reduceIte, Nat.reduceEqDiff, Nat.reduceAdd, Nat.reduceSub, Int.reduceToNat, Nat.reduceLeDiff, Nat.reduceLT, reduceCtorEq, Int.reduceEq, retQ, retL, resV, RetV, RetOk, SubL, intD_B, lotD_B, flowD_B, snocI, ty_3, ty_27, ty_4, ty_24, ty_40, ty_22, ty_31, ← List.map_take, issD_get, hd, hp]; try simp (disch := omega) only [av_w, av_t1, av_tp, Int.toNat_natCast]))
      have hF : (List.range (l.length)).all Pk = false := all_fail hlt (by rw [hPk]; dsimp only; rw [hp]; rfl)
      exact Sub.of_eq (congrArg aB (by simp [hR, hF]))
  · obtain rfl : k = l.length := by omega
    have hd := ged (Nat.le_refl (l.length))
    have hT : (List.range (l.length)).all Pk = true := all_done h0
    repeat' (first
      | (with_reducible refine aw_seq ?_)
      | ((with_reducible refine twoG_intro ?_ ?_) <;> intro hTw <;> first | (exact Bool.noConfusion hTw) | ((try simp only [hTw, Bool.not_true, Bool.not_false, Bool.true_and, Bool.false_and, Bool.and_true, Bool.and_false, Bool.true_or, Bool.false_or, Bool.or_true, Bool.or_false]); (first | (guard_hyp hTw : true = true; clear hTw) | (guard_hyp hTw : false = false; clear hTw) | (revert hTw; intro _))))
      | ((with_reducible refine two_intro ?_ ?_) <;> intro hTw <;> first | (exact Bool.noConfusion hTw) | ((first | (guard_hyp hTw : true = true; clear hTw) | (guard_hyp hTw : false = false; clear hTw) | (revert hTw; intro _))))
      | ((with_reducible refine And.intro ?_ ?_); (focus (first | omega | rfl | decide | grind)))
      | (with_reducible refine aw_block ?_)
      | (with_reducible refine aw_scope ?_)
      | ((first
          | ((with_reducible refine aw_regionA T_ok ?_ ?_); (focus kernel_rfl))
          | ((with_reducible refine aw_drawnA T_ok ?_ ?_ ?_ ?_); (focus kernel_rfl); (focus kernel_rfl); (focus (decide +kernel)))
          | ((with_reducible refine aw_drawnF T_ok ?_ ?_ ?_ ?_); (focus kernel_rfl); (focus kernel_rfl); (focus (decide +kernel)))
          | (with_reducible refine aw_label ?_)
          | ((with_reducible refine aw_rfM ?_ ?_); (focus kernel_rfl))
          | (with_reducible refine aw_skip ?_)
          | (with_reducible refine aw_exit ?_)
          | ((with_reducible refine aw_condM ?_ ?_); (focus kernel_rfl))
          | (with_reducible refine aw_ret ?_)
        ); simp only [↓avP, avQ, if_true, if_false, forall_const, beq_self_eq_true, eq_self, ne_eq, implies_true, reduceIte, Nat.reduceEqDiff, Nat.reduceAdd, Nat.reduceSub, Int.reduceToNat, Nat.reduceLeDiff, Nat.reduceLT, reduceCtorEq, Int.reduceEq, retQ, retL, resV, RetV, RetOk, SubL, intD_B, lotD_B, flowD_B, snocI, ty_3, ty_27, ty_4, ty_24, ty_40, ty_22, ty_31, ← List.map_take, issD_get, hd]; try simp (disch := omega) only [av_w, av_t1, av_tp, Int.toNat_natCast]))
    exact Sub.of_eq (congrArg aB (by simp [hR, hT]))
def coalB (l : List Int) : Bool := (List.range l.length).all fun k => !(!officeB (l.getD k 0) || decide ((k : Int) > 0) && decide (l.getD k 0 ≤ l.getD (k - 1) 0))
theorem qcoal_spec (l : List Int) (hl : l.length ≤ 140737488351232) : Spec Try.prog 28 [aIs l] (.r1 (aB (coalB l))) := qcoal_spec0 l hl
def lineB (x : List Int) : Bool := decide (x.length ≠ 0) && diffB officeB x
def linesB (l : List (List Int)) (n : Nat) : Bool := l.all lineB && decide (l.length = n)
theorem qlines_spec (l : List (List Int)) (n : Nat) (hl : l.length ≤ 140737488351232) (hx : ∀ x ∈ l, x.length ≤ 140737488351232) : Spec Try.prog 27 [aIss l, aI n] (.r1 (aB (linesB l n))) := by
  refine spec_of T_ok Try.func27 (by dsimp only [Try.f27]) rfl rfl (by simp) fun w F => ?_
  obtain ⟨Pk, hPk⟩ : ∃ Pk : Nat → Bool, Pk = fun k => lineB (l.getD k []) := ⟨_, rfl⟩
  have hres : linesB l n = ((List.range l.length).all Pk && decide (l.length = n)) := by rw [linesB, hPk, has_all]
  repeat' (first
    | (with_reducible refine aw_seq ?_)
    | ((with_reducible refine twoG_intro ?_ ?_) <;> intro hTw <;> first | (exact Bool.noConfusion hTw) | ((try simp only [hTw, Bool.not_true, Bool.not_false, Bool.true_and, Bool.false_and, Bool.and_true, Bool.and_false, Bool.true_or, Bool.false_or, Bool.or_true, Bool.or_false]); (first | (guard_hyp hTw : true = true; clear hTw) | (guard_hyp hTw : false = false; clear hTw) | (revert hTw; intro _))))
    | ((with_reducible refine two_intro ?_ ?_) <;> intro hTw <;> first | (exact Bool.noConfusion hTw) | ((first | (guard_hyp hTw : true = true; clear hTw) | (guard_hyp hTw : false = false; clear hTw) | (revert hTw; intro _))))
    | ((with_reducible refine And.intro ?_ ?_); (focus (first | omega | rfl | decide | grind)))
    | (with_reducible refine aw_block ?_)
    | (with_reducible refine aw_scope ?_)
    | ((first
        | ((with_reducible refine aw_regionA T_ok ?_ ?_); (focus kernel_rfl))
        | ((with_reducible refine aw_drawnA T_ok ?_ ?_ ?_ ?_); (focus kernel_rfl); (focus kernel_rfl); (focus (decide +kernel)))
        | ((with_reducible refine aw_drawnF T_ok ?_ ?_ ?_ ?_); (focus kernel_rfl); (focus kernel_rfl); (focus (decide +kernel)))
        | (with_reducible refine aw_label ?_)
        | ((with_reducible refine aw_rfM ?_ ?_); (focus kernel_rfl))
        | (with_reducible refine aw_skip ?_)
        | (with_reducible refine aw_exit ?_)
        | ((with_reducible refine aw_condM ?_ ?_); (focus kernel_rfl))
        | (with_reducible refine aw_ret ?_)
      ); simp only [↓avP, avQ, if_true, if_false, forall_const, beq_self_eq_true, eq_self, ne_eq, implies_true, reduceIte, Nat.reduceEqDiff, Nat.reduceAdd, Nat.reduceSub, Int.reduceToNat, Nat.reduceLeDiff, Nat.reduceLT, reduceCtorEq, Int.reduceEq, retQ, retL, resV, RetV, RetOk, SubL, intD_B, lotD_B, flowD_B, snocI, ty_3, ty_27, ty_4, ty_24, ty_40, ty_22, ty_31, ← List.map_take, issD_get]; try simp (disch := omega) only [av_w, av_t1, av_tp, Int.toNat_natCast]))
  refine aw_loopI (fun k : Nat => ⟨[(0, vIss l), (1, vI n), (5, vI k)], [], 0⟩) (fun k => k ≤ l.length ∧ ∀ i, i < k → Pk i = true) (fun k => l.length - k) 0 ⟨Nat.zero_le _, fun i hi => absurd hi (Nat.not_lt_zero i)⟩ (wk_of [] rfl rfl ?_ ?_) ?_
  · simp only [wkT, wkB, wkB1, subV, subVs, subD, subB, lkN_n, lkN_c, lkT_n, lkT_c, lkB_n, lkB_c, if_true, if_false, reduceIte, Nat.reduceEqDiff, true_and, and_true, and_self, inT, ofA]
    (repeat' (first | exact trivial | rfl | exact rfl | exact subVs_d _ _ | exact subVs_dm _ _ | exact subD_refl _ | refine And.intro ?_ ?_))
  · simp only [wkT, wkB, wkB1, subV, subVs, subD, subB, lkN_n, lkN_c, lkT_n, lkT_c, lkB_n, lkB_c, if_true, if_false, reduceIte, Nat.reduceEqDiff, true_and, and_true, and_self, inT, ofA]
    (repeat' (first | exact trivial | rfl | exact rfl | exact subVs_d _ _ | exact subVs_dm _ _ | exact subD_refl _ | refine And.intro ?_ ?_))
  rintro k ⟨hk, h0⟩
  rcases Nat.lt_or_ge k l.length with hlt | hge
  · have hd := ltd hlt
    obtain ⟨x, hxd⟩ : ∃ x, x = l.getD k [] := ⟨_, rfl⟩
    have hxl : x.length ≤ 140737488351232 := by
      rw [hxd]
      have : l.getD k [] = l[k] := by simp [List.getD, hlt]
      rw [this]; exact hx _ (by simp)
    have hPd : Pk k = lineB x := by rw [hPk, hxd]
    have hD := qdifferent_spec x hxl
    have hbad : Pk k = false → linesB l n = false := fun h => by rw [hres, all_fail hlt h, Bool.false_and]
    by_cases h1 : x.length = 0
    · have hd1 : ((x.length : Int) == 0) = true := by rw [h1]; rfl
      repeat' (first
        | (with_reducible refine aw_seq ?_)
        | ((with_reducible refine twoG_intro ?_ ?_) <;> intro hTw <;> first | (exact Bool.noConfusion hTw) | ((try simp only [hTw, Bool.not_true, Bool.not_false, Bool.true_and, Bool.false_and, Bool.and_true, Bool.and_false, Bool.true_or, Bool.false_or, Bool.or_true, Bool.or_false]); (first | (guard_hyp hTw : true = true; clear hTw) | (guard_hyp hTw : false = false; clear hTw) | (revert hTw; intro _))))
        | ((with_reducible refine two_intro ?_ ?_) <;> intro hTw <;> first | (exact Bool.noConfusion hTw) | ((first | (guard_hyp hTw : true = true; clear hTw) | (guard_hyp hTw : false = false; clear hTw) | (revert hTw; intro _))))
        | ((with_reducible refine And.intro ?_ ?_); (focus (first | omega | rfl | decide | grind)))
        | (with_reducible refine aw_block ?_)
        | (with_reducible refine aw_scope ?_)
        | ((first
            | ((with_reducible refine aw_regionA T_ok ?_ ?_); (focus kernel_rfl))
            | ((with_reducible refine aw_drawnA T_ok ?_ ?_ ?_ ?_); (focus kernel_rfl); (focus kernel_rfl); (focus (decide +kernel)))
            | ((with_reducible refine aw_drawnF T_ok ?_ ?_ ?_ ?_); (focus kernel_rfl); (focus kernel_rfl); (focus (decide +kernel)))
            | ((with_reducible refine callK_intro (hD) (by with_unfolding_all rfl) ?_ ?_); (focus kernel_rfl))
            | ((with_reducible refine callI_spec (hD) (by with_unfolding_all rfl) ?_ ?_ ?_); (focus kernel_rfl); (focus kernel_rfl))
            | (with_reducible refine aw_label ?_)
            | ((with_reducible refine aw_rfM ?_ ?_); (focus kernel_rfl))
            | (with_reducible refine aw_skip ?_)
            | (with_reducible refine aw_exit ?_)
            | ((with_reducible refine aw_condM ?_ ?_); (focus kernel_rfl))
            | (with_reducible refine aw_ret ?_)
          ); simp only [↓avP, avQ, if_true, if_false, forall_const, beq_self_eq_true, eq_self, ne_eq, implies_true, reduceIte, Nat.reduceEqDiff, Nat.reduceAdd, Nat.reduceSub, Int.reduceToNat, Nat.reduceLeDiff, Nat.reduceLT, reduceCtorEq, Int.reduceEq, retQ, retL, resV, RetV, RetOk, SubL, intD_B, lotD_B, flowD_B, snocI, ty_3, ty_27, ty_4, ty_24, ty_40, ty_22, ty_31, ← List.map_take, issD_get, hd, ← hxd, hd1]; try simp (disch := omega) only [av_w, av_t1, av_tp, Int.toNat_natCast]))
      exact Sub.of_eq (congrArg aB (hbad (by rw [hPd, lineB, decide_eq_false (by omega), Bool.false_and])).symm)
    have hd1 : ((x.length : Int) == 0) = false := by simp; exact fun e => h1 (by rw [e]; rfl)
    by_cases h2 : x.Nodup
    rotate_left
    · have hd2 : decide x.Nodup = false := decide_eq_false h2
      repeat' (first
        | (with_reducible refine aw_seq ?_)
        | ((with_reducible refine twoG_intro ?_ ?_) <;> intro hTw <;> first | (exact Bool.noConfusion hTw) | ((try simp only [hTw, Bool.not_true, Bool.not_false, Bool.true_and, Bool.false_and, Bool.and_true, Bool.and_false, Bool.true_or, Bool.false_or, Bool.or_true, Bool.or_false]); (first | (guard_hyp hTw : true = true; clear hTw) | (guard_hyp hTw : false = false; clear hTw) | (revert hTw; intro _))))
        | ((with_reducible refine two_intro ?_ ?_) <;> intro hTw <;> first | (exact Bool.noConfusion hTw) | ((first | (guard_hyp hTw : true = true; clear hTw) | (guard_hyp hTw : false = false; clear hTw) | (revert hTw; intro _))))
        | ((with_reducible refine And.intro ?_ ?_); (focus (first | omega | rfl | decide | grind)))
        | (with_reducible refine aw_block ?_)
        | (with_reducible refine aw_scope ?_)
        | ((first
            | ((with_reducible refine aw_regionA T_ok ?_ ?_); (focus kernel_rfl))
            | ((with_reducible refine aw_drawnA T_ok ?_ ?_ ?_ ?_); (focus kernel_rfl); (focus kernel_rfl); (focus (decide +kernel)))
            | ((with_reducible refine aw_drawnF T_ok ?_ ?_ ?_ ?_); (focus kernel_rfl); (focus kernel_rfl); (focus (decide +kernel)))
            | ((with_reducible refine callK_intro (hD) (by with_unfolding_all rfl) ?_ ?_); (focus kernel_rfl))
            | ((with_reducible refine callI_spec (hD) (by with_unfolding_all rfl) ?_ ?_ ?_); (focus kernel_rfl); (focus kernel_rfl))
            | (with_reducible refine aw_label ?_)
            | ((with_reducible refine aw_rfM ?_ ?_); (focus kernel_rfl))
            | (with_reducible refine aw_skip ?_)
            | (with_reducible refine aw_exit ?_)
            | ((with_reducible refine aw_condM ?_ ?_); (focus kernel_rfl))
            | (with_reducible refine aw_ret ?_)
          ); simp only [↓avP, avQ, if_true, if_false, forall_const, beq_self_eq_true, eq_self, ne_eq, implies_true, reduceIte, Nat.reduceEqDiff, Nat.reduceAdd, Nat.reduceSub, Int.reduceToNat, Nat.reduceLeDiff, Nat.reduceLT, reduceCtorEq, Int.reduceEq, retQ, retL, resV, RetV, RetOk, SubL, intD_B, lotD_B, flowD_B, snocI, ty_3, ty_27, ty_4, ty_24, ty_40, ty_22, ty_31, ← List.map_take, issD_get, hd, ← hxd, hd1, hd2]; try simp (disch := omega) only [av_w, av_t1, av_tp, Int.toNat_natCast]))
      exact Sub.of_eq (congrArg aB (hbad (by rw [hPd, lineB, diffB, hd2]; simp)).symm)
    have hd2 : decide x.Nodup = true := decide_eq_true h2
    have hPx : Pk k = x.all officeB := by rw [hPd, lineB, diffB, hd2, decide_eq_true h1]; simp
    rw [← range_all x officeB] at hPx
    repeat' (first
      | (with_reducible refine aw_seq ?_)
      | ((with_reducible refine twoG_intro ?_ ?_) <;> intro hTw <;> first | (exact Bool.noConfusion hTw) | ((try simp only [hTw, Bool.not_true, Bool.not_false, Bool.true_and, Bool.false_and, Bool.and_true, Bool.and_false, Bool.true_or, Bool.false_or, Bool.or_true, Bool.or_false]); (first | (guard_hyp hTw : true = true; clear hTw) | (guard_hyp hTw : false = false; clear hTw) | (revert hTw; intro _))))
      | ((with_reducible refine two_intro ?_ ?_) <;> intro hTw <;> first | (exact Bool.noConfusion hTw) | ((first | (guard_hyp hTw : true = true; clear hTw) | (guard_hyp hTw : false = false; clear hTw) | (revert hTw; intro _))))
      | ((with_reducible refine And.intro ?_ ?_); (focus (first | omega | rfl | decide | grind)))
      | (with_reducible refine aw_block ?_)
      | (with_reducible refine aw_scope ?_)
      | ((first
          | ((with_reducible refine aw_regionA T_ok ?_ ?_); (focus kernel_rfl))
          | ((with_reducible refine aw_drawnA T_ok ?_ ?_ ?_ ?_); (focus kernel_rfl); (focus kernel_rfl); (focus (decide +kernel)))
          | ((with_reducible refine aw_drawnF T_ok ?_ ?_ ?_ ?_); (focus kernel_rfl); (focus kernel_rfl); (focus (decide +kernel)))
          | ((with_reducible refine callK_intro (hD) (by with_unfolding_all rfl) ?_ ?_); (focus kernel_rfl))
          | ((with_reducible refine callI_spec (hD) (by with_unfolding_all rfl) ?_ ?_ ?_); (focus kernel_rfl); (focus kernel_rfl))
          | (with_reducible refine aw_label ?_)
          | ((with_reducible refine aw_rfM ?_ ?_); (focus kernel_rfl))
          | (with_reducible refine aw_skip ?_)
          | (with_reducible refine aw_exit ?_)
          | ((with_reducible refine aw_condM ?_ ?_); (focus kernel_rfl))
          | (with_reducible refine aw_ret ?_)
        ); simp only [↓avP, avQ, if_true, if_false, forall_const, beq_self_eq_true, eq_self, ne_eq, implies_true, reduceIte, Nat.reduceEqDiff, Nat.reduceAdd, Nat.reduceSub, Int.reduceToNat, Nat.reduceLeDiff, Nat.reduceLT, reduceCtorEq, Int.reduceEq, retQ, retL, resV, RetV, RetOk, SubL, intD_B, lotD_B, flowD_B, snocI, ty_3, ty_27, ty_4, ty_24, ty_40, ty_22, ty_31, ← List.map_take, issD_get, hd, ← hxd, hd1, hd2]; try simp (disch := omega) only [av_w, av_t1, av_tp, Int.toNat_natCast]))
    refine aw_loopI (fun j : Nat => ⟨[(0, vIss l), (1, vI n), (5, vI k), (6, vI j)], [], 0⟩) (fun j => j ≤ x.length ∧ ∀ i, i < j → (fun i => officeB (x.getD i 0)) i = true) (fun j => x.length - j) 0 ⟨Nat.zero_le _, fun i hi => absurd hi (Nat.not_lt_zero i)⟩ (wk_of [] rfl rfl ?_ ?_) ?_
    · simp only [wkT, wkB, wkB1, subV, subVs, subD, subB, lkN_n, lkN_c, lkT_n, lkT_c, lkB_n, lkB_c, if_true, if_false, reduceIte, Nat.reduceEqDiff, true_and, and_true, and_self, inT, ofA]
      (repeat' (first | exact trivial | rfl | exact rfl | exact subVs_d _ _ | exact subVs_dm _ _ | exact subD_refl _ | refine And.intro ?_ ?_))
    · simp only [wkT, wkB, wkB1, subV, subVs, subD, subB, lkN_n, lkN_c, lkT_n, lkT_c, lkB_n, lkB_c, if_true, if_false, reduceIte, Nat.reduceEqDiff, true_and, and_true, and_self, inT, ofA]
      (repeat' (first | exact trivial | rfl | exact rfl | exact subVs_d _ _ | exact subVs_dm _ _ | exact subD_refl _ | refine And.intro ?_ ?_))
    rintro j ⟨hj, h0'⟩
    rcases Nat.lt_or_ge j x.length with hjlt | hjge
    · have hd3 := ltd hjlt
      cases hp : officeB (x.getD j 0) with
      | true =>
        repeat' (first
          | (with_reducible refine aw_seq ?_)
          | ((with_reducible refine twoG_intro ?_ ?_) <;> intro hTw <;> first | (exact Bool.noConfusion hTw) | ((try simp only [hTw, Bool.not_true, Bool.not_false, Bool.true_and, Bool.false_and, Bool.and_true, Bool.and_false, Bool.true_or, Bool.false_or, Bool.or_true, Bool.or_false]); (first | (guard_hyp hTw : true = true; clear hTw) | (guard_hyp hTw : false = false; clear hTw) | (revert hTw; intro _))))
          | ((with_reducible refine two_intro ?_ ?_) <;> intro hTw <;> first | (exact Bool.noConfusion hTw) | ((first | (guard_hyp hTw : true = true; clear hTw) | (guard_hyp hTw : false = false; clear hTw) | (revert hTw; intro _))))
          | ((with_reducible refine And.intro ?_ ?_); (focus (first | omega | rfl | decide | grind)))
          | (with_reducible refine aw_block ?_)
          | (with_reducible refine aw_scope ?_)
          | ((first
              | ((with_reducible refine aw_regionA T_ok ?_ ?_); (focus kernel_rfl))
              | ((with_reducible refine aw_drawnA T_ok ?_ ?_ ?_ ?_); (focus kernel_rfl); (focus kernel_rfl); (focus (decide +kernel)))
              | ((with_reducible refine aw_drawnF T_ok ?_ ?_ ?_ ?_); (focus kernel_rfl); (focus kernel_rfl); (focus (decide +kernel)))
              | ((with_reducible refine callK_intro (qoffice_spec (x.getD j 0)) (by with_unfolding_all rfl) ?_ ?_); (focus kernel_rfl))
              | ((with_reducible refine callI_spec (qoffice_spec (x.getD j 0)) (by with_unfolding_all rfl) ?_ ?_ ?_); (focus kernel_rfl); (focus kernel_rfl))
              | (with_reducible refine aw_label ?_)
              | ((with_reducible refine aw_rfM ?_ ?_); (focus kernel_rfl))
              | (with_reducible refine aw_skip ?_)
              | (with_reducible refine aw_exit ?_)
              | ((with_reducible refine aw_condM ?_ ?_); (focus kernel_rfl))
              | (with_reducible refine aw_ret ?_)
            ); simp only [↓avP, avQ, if_true, if_false, forall_const, beq_self_eq_true, eq_self, ne_eq, implies_true, reduceIte, Nat.reduceEqDiff, Nat.reduceAdd, Nat.reduceSub, Int.reduceToNat, Nat.reduceLeDiff, Nat.reduceLT, reduceCtorEq, Int.reduceEq, retQ, retL, resV, RetV, RetOk, SubL, intD_B, lotD_B, flowD_B, snocI, ty_3, ty_27, ty_4, ty_24, ty_40, ty_22, ty_31, ← List.map_take, issD_get, hd, ← hxd, hd3, hp]; try simp (disch := omega) only [av_w, av_t1, av_tp, Int.toNat_natCast]))
        refine ⟨j + 1, ⟨by omega, fun i hi => by rcases Nat.lt_succ_iff_lt_or_eq.1 hi with h | rfl; exact h0' i h; exact hp⟩, by dsimp only; omega, wk_of [] rfl rfl ?_ ?_⟩
        · simp only [wkT, wkB, wkB1, subV, subVs, subD, subB, lkN_n, lkN_c, lkT_n, lkT_c, lkB_n, lkB_c, if_true, if_false, reduceIte, Nat.reduceEqDiff, true_and, and_true, and_self, inT, ofA]
          (repeat' (first | exact trivial | rfl | exact rfl | exact subVs_d _ _ | exact subVs_dm _ _ | exact subD_refl _ | refine And.intro ?_ ?_))
        · simp only [wkT, wkB, wkB1, subV, subVs, subD, subB, lkN_n, lkN_c, lkT_n, lkT_c, lkB_n, lkB_c, if_true, if_false, reduceIte, Nat.reduceEqDiff, true_and, and_true, and_self, inT, ofA]
      | false =>
        repeat' (first
          | (with_reducible refine aw_seq ?_)
          | ((with_reducible refine twoG_intro ?_ ?_) <;> intro hTw <;> first | (exact Bool.noConfusion hTw) | ((try simp only [hTw, Bool.not_true, Bool.not_false, Bool.true_and, Bool.false_and, Bool.and_true, Bool.and_false, Bool.true_or, Bool.false_or, Bool.or_true, Bool.or_false]); (first | (guard_hyp hTw : true = true; clear hTw) | (guard_hyp hTw : false = false; clear hTw) | (revert hTw; intro _))))
          | ((with_reducible refine two_intro ?_ ?_) <;> intro hTw <;> first | (exact Bool.noConfusion hTw) | ((first | (guard_hyp hTw : true = true; clear hTw) | (guard_hyp hTw : false = false; clear hTw) | (revert hTw; intro _))))
          | ((with_reducible refine And.intro ?_ ?_); (focus (first | omega | rfl | decide | grind)))
          | (with_reducible refine aw_block ?_)
          | (with_reducible refine aw_scope ?_)
          | ((first
              | ((with_reducible refine aw_regionA T_ok ?_ ?_); (focus kernel_rfl))
              | ((with_reducible refine aw_drawnA T_ok ?_ ?_ ?_ ?_); (focus kernel_rfl); (focus kernel_rfl); (focus (decide +kernel)))
              | ((with_reducible refine aw_drawnF T_ok ?_ ?_ ?_ ?_); (focus kernel_rfl); (focus kernel_rfl); (focus (decide +kernel)))
              | ((with_reducible refine callK_intro (qoffice_spec (x.getD j 0)) (by with_unfolding_all rfl) ?_ ?_); (focus kernel_rfl))
              | ((with_reducible refine callI_spec (qoffice_spec (x.getD j 0)) (by with_unfolding_all rfl) ?_ ?_ ?_); (focus kernel_rfl); (focus kernel_rfl))
              | (with_reducible refine aw_label ?_)
              | ((with_reducible refine aw_rfM ?_ ?_); (focus kernel_rfl))
              | (with_reducible refine aw_skip ?_)
              | (with_reducible refine aw_exit ?_)
              | ((with_reducible refine aw_condM ?_ ?_); (focus kernel_rfl))
              | (with_reducible refine aw_ret ?_)
            ); simp only [↓avP, avQ, if_true, if_false, forall_const, beq_self_eq_true, eq_self, ne_eq, implies_true, reduceIte, Nat.reduceEqDiff, Nat.reduceAdd, Nat.reduceSub, Int.reduceToNat, Nat.reduceLeDiff, Nat.reduceLT, reduceCtorEq, Int.reduceEq, retQ, retL, resV, RetV, RetOk, SubL, intD_B, lotD_B, flowD_B, snocI, ty_3, ty_27, ty_4, ty_24, ty_40, ty_22, ty_31, ← List.map_take, issD_get, hd, ← hxd, hd3, hp]; try simp (disch := omega) only [av_w, av_t1, av_tp, Int.toNat_natCast]))
        exact Sub.of_eq (congrArg aB (hbad (by rw [hPx, all_fail hjlt hp])).symm)
    · obtain rfl : j = x.length := by omega
      have hd3 := ged (Nat.le_refl x.length)
      have hTk : Pk k = true := by rw [hPx, all_done h0']
      repeat' (first
        | (with_reducible refine aw_seq ?_)
        | ((with_reducible refine twoG_intro ?_ ?_) <;> intro hTw <;> first | (exact Bool.noConfusion hTw) | ((try simp only [hTw, Bool.not_true, Bool.not_false, Bool.true_and, Bool.false_and, Bool.and_true, Bool.and_false, Bool.true_or, Bool.false_or, Bool.or_true, Bool.or_false]); (first | (guard_hyp hTw : true = true; clear hTw) | (guard_hyp hTw : false = false; clear hTw) | (revert hTw; intro _))))
        | ((with_reducible refine two_intro ?_ ?_) <;> intro hTw <;> first | (exact Bool.noConfusion hTw) | ((first | (guard_hyp hTw : true = true; clear hTw) | (guard_hyp hTw : false = false; clear hTw) | (revert hTw; intro _))))
        | ((with_reducible refine And.intro ?_ ?_); (focus (first | omega | rfl | decide | grind)))
        | (with_reducible refine aw_block ?_)
        | (with_reducible refine aw_scope ?_)
        | ((first
            | ((with_reducible refine aw_regionA T_ok ?_ ?_); (focus kernel_rfl))
            | ((with_reducible refine aw_drawnA T_ok ?_ ?_ ?_ ?_); (focus kernel_rfl); (focus kernel_rfl); (focus (decide +kernel)))
            | ((with_reducible refine aw_drawnF T_ok ?_ ?_ ?_ ?_); (focus kernel_rfl); (focus kernel_rfl); (focus (decide +kernel)))
            | (with_reducible refine aw_label ?_)
            | ((with_reducible refine aw_rfM ?_ ?_); (focus kernel_rfl))
            | (with_reducible refine aw_skip ?_)
            | (with_reducible refine aw_exit ?_)
            | ((with_reducible refine aw_condM ?_ ?_); (focus kernel_rfl))
            | (with_reducible refine aw_ret ?_)
          ); simp only [↓avP, avQ, if_true, if_false, forall_const, beq_self_eq_true, eq_self, ne_eq, implies_true, reduceIte, Nat.reduceEqDiff, Nat.reduceAdd, Nat.reduceSub, Int.reduceToNat, Nat.reduceLeDiff, Nat.reduceLT, reduceCtorEq, Int.reduceEq, retQ, retL, resV, RetV, RetOk, SubL, intD_B, lotD_B, flowD_B, snocI, ty_3, ty_27, ty_4, ty_24, ty_40, ty_22, ty_31, ← List.map_take, issD_get, hd, ← hxd, hd3]; try simp (disch := omega) only [av_w, av_t1, av_tp, Int.toNat_natCast]))
      refine ⟨k + 1, ⟨by omega, fun i hi => by rcases Nat.lt_succ_iff_lt_or_eq.1 hi with h | rfl; exact h0 i h; exact hTk⟩, by dsimp only; omega, wk_of [] rfl rfl ?_ ?_⟩
      · simp only [wkT, wkB, wkB1, subV, subVs, subD, subB, lkN_n, lkN_c, lkT_n, lkT_c, lkB_n, lkB_c, if_true, if_false, reduceIte, Nat.reduceEqDiff, true_and, and_true, and_self, inT, ofA]
        (repeat' (first | exact trivial | rfl | exact rfl | exact subVs_d _ _ | exact subVs_dm _ _ | exact subD_refl _ | refine And.intro ?_ ?_))
      · simp only [wkT, wkB, wkB1, subV, subVs, subD, subB, lkN_n, lkN_c, lkT_n, lkT_c, lkB_n, lkB_c, if_true, if_false, reduceIte, Nat.reduceEqDiff, true_and, and_true, and_self, inT, ofA]
  · obtain rfl : k = l.length := by omega
    have hd := ged (Nat.le_refl l.length)
    repeat' (first
      | (with_reducible refine aw_seq ?_)
      | ((with_reducible refine twoG_intro ?_ ?_) <;> intro hTw <;> first | (exact Bool.noConfusion hTw) | ((try simp only [hTw, Bool.not_true, Bool.not_false, Bool.true_and, Bool.false_and, Bool.and_true, Bool.and_false, Bool.true_or, Bool.false_or, Bool.or_true, Bool.or_false]); (first | (guard_hyp hTw : true = true; clear hTw) | (guard_hyp hTw : false = false; clear hTw) | (revert hTw; intro _))))
      | ((with_reducible refine two_intro ?_ ?_) <;> intro hTw <;> first | (exact Bool.noConfusion hTw) | ((first | (guard_hyp hTw : true = true; clear hTw) | (guard_hyp hTw : false = false; clear hTw) | (revert hTw; intro _))))
      | ((with_reducible refine And.intro ?_ ?_); (focus (first | omega | rfl | decide | grind)))
      | (with_reducible refine aw_block ?_)
      | (with_reducible refine aw_scope ?_)
      | ((first
          | ((with_reducible refine aw_regionA T_ok ?_ ?_); (focus kernel_rfl))
          | ((with_reducible refine aw_drawnA T_ok ?_ ?_ ?_ ?_); (focus kernel_rfl); (focus kernel_rfl); (focus (decide +kernel)))
          | ((with_reducible refine aw_drawnF T_ok ?_ ?_ ?_ ?_); (focus kernel_rfl); (focus kernel_rfl); (focus (decide +kernel)))
          | (with_reducible refine aw_label ?_)
          | ((with_reducible refine aw_rfM ?_ ?_); (focus kernel_rfl))
          | (with_reducible refine aw_skip ?_)
          | (with_reducible refine aw_exit ?_)
          | ((with_reducible refine aw_condM ?_ ?_); (focus kernel_rfl))
          | (with_reducible refine aw_ret ?_)
        ); simp only [↓avP, avQ, if_true, if_false, forall_const, beq_self_eq_true, eq_self, ne_eq, implies_true, reduceIte, Nat.reduceEqDiff, Nat.reduceAdd, Nat.reduceSub, Int.reduceToNat, Nat.reduceLeDiff, Nat.reduceLT, reduceCtorEq, Int.reduceEq, retQ, retL, resV, RetV, RetOk, SubL, intD_B, lotD_B, flowD_B, snocI, ty_3, ty_27, ty_4, ty_24, ty_40, ty_22, ty_31, ← List.map_take, issD_get, hd]; try simp (disch := omega) only [av_w, av_t1, av_tp, Int.toNat_natCast]))
    exact Sub.of_eq (congrArg aB (by rw [hres, all_done h0, Bool.true_and, Bool.eq_iff_iff]; simp; omega))
end Go.Proofs.Ytncihbmehbiekaa


namespace Go.Proofs.Ytncihbmehbiekaa
set_option linter.unusedSimpArgs false
set_option linter.unusedVariables false
open Go.RowKit
set_option maxRecDepth 100000
set_option maxHeartbeats 4000000
def fewF (f : FlowP) : Bool := ((List.range (min f.lots.length 20)).all fun k => !(decide (((f.lots.getD k default).inn.length : Int) > 70) || decide (((f.lots.getD k default).perm.length : Int) > 70))) && decide (f.lots.length ≤ 20)
theorem ffew_spec (f : FlowP) (hl : f.lots.length ≤ 140737488351232) : Spec Try.prog 31 [.agg (flowD f)] (.r1 (aB (fewF f))) := by
  refine spec_of T_ok Try.func31 (by dsimp only [Try.f31]) rfl rfl (by simp) fun w F => ?_
  obtain ⟨Pk, hPk⟩ : ∃ Pk : Nat → Bool, Pk = fun k => !(decide (((f.lots.getD k default).inn.length : Int) > 70) || decide (((f.lots.getD k default).perm.length : Int) > 70)) := ⟨_, rfl⟩
  have hres : fewF f = ((List.range (min f.lots.length 20)).all Pk && decide (f.lots.length ≤ 20)) := by rw [fewF, hPk]
  repeat' (first
    | (with_reducible refine aw_seq ?_)
    | ((with_reducible refine twoG_intro ?_ ?_) <;> intro hTw <;> first | (exact Bool.noConfusion hTw) | ((try simp only [hTw, Bool.not_true, Bool.not_false, Bool.true_and, Bool.false_and, Bool.and_true, Bool.and_false, Bool.true_or, Bool.false_or, Bool.or_true, Bool.or_false]); (first | (guard_hyp hTw : true = true; clear hTw) | (guard_hyp hTw : false = false; clear hTw) | (revert hTw; intro _))))
    | ((with_reducible refine two_intro ?_ ?_) <;> intro hTw <;> first | (exact Bool.noConfusion hTw) | ((first | (guard_hyp hTw : true = true; clear hTw) | (guard_hyp hTw : false = false; clear hTw) | (revert hTw; intro _))))
    | ((with_reducible refine And.intro ?_ ?_); (focus (first | omega | rfl | decide | grind)))
    | (with_reducible refine aw_block ?_)
    | (with_reducible refine aw_scope ?_)
    | ((first
        | ((with_reducible refine aw_regionA T_ok ?_ ?_); (focus kernel_rfl))
        | ((with_reducible refine aw_drawnA T_ok ?_ ?_ ?_ ?_); (focus kernel_rfl); (focus kernel_rfl); (focus (decide +kernel)))
        | ((with_reducible refine aw_drawnF T_ok ?_ ?_ ?_ ?_); (focus kernel_rfl); (focus kernel_rfl); (focus (decide +kernel)))
        | (with_reducible refine aw_label ?_)
        | ((with_reducible refine aw_rfM ?_ ?_); (focus kernel_rfl))
        | (with_reducible refine aw_skip ?_)
        | (with_reducible refine aw_exit ?_)
        | ((with_reducible refine aw_condM ?_ ?_); (focus kernel_rfl))
        | (with_reducible refine aw_ret ?_)
      ); simp only [↓avP, avQ, if_true, if_false, forall_const, beq_self_eq_true, eq_self, ne_eq, implies_true, reduceIte, Nat.reduceEqDiff, Nat.reduceAdd, Nat.reduceSub, Int.reduceToNat, Nat.reduceLeDiff, Nat.reduceLT, reduceCtorEq, Int.reduceEq, retQ, retL, resV, RetV, RetOk, SubL, intD_B, lotD_B, flowD_B, snocI, ty_3, ty_27, ty_4, ty_24, ty_40, ty_22, ty_31, ← List.map_take, issD_get]; try simp (disch := omega) only [av_w, av_t1, av_tp, Int.toNat_natCast]))
  refine aw_loopI (fun k : Nat => ⟨[(1, .ptr 0 0), (3, vI k)], [(0, .cells 24 (dV (flowD f)))], 1⟩) (fun k => k ≤ min f.lots.length 20 ∧ ∀ i, i < k → Pk i = true) (fun k => min f.lots.length 20 - k) 0 ⟨Nat.zero_le _, fun i hi => absurd hi (Nat.not_lt_zero i)⟩ (wk_of [(0, some 0)] rfl rfl ?_ ?_) ?_
  · simp only [wkT, wkB, wkB1, subV, subVs, subD, subB, lkN_n, lkN_c, lkT_n, lkT_c, lkB_n, lkB_c, if_true, if_false, reduceIte, Nat.reduceEqDiff, true_and, and_true, and_self, inT, ofA]
    (repeat' (first | exact trivial | rfl | exact rfl | exact subVs_d _ _ | exact subVs_dm _ _ | exact subD_refl _ | refine And.intro ?_ ?_))
  · simp only [wkT, wkB, wkB1, subV, subVs, subD, subB, lkN_n, lkN_c, lkT_n, lkT_c, lkB_n, lkB_c, if_true, if_false, reduceIte, Nat.reduceEqDiff, true_and, and_true, and_self, inT, ofA]
    (repeat' (first | exact trivial | rfl | exact rfl | exact subVs_d _ _ | exact subVs_dm _ _ | exact subD_refl _ | refine And.intro ?_ ?_))
  rintro k ⟨hk, h0⟩
  rcases Nat.lt_or_ge k (min f.lots.length 20) with hlt | hge
  · have hlt1 : k < f.lots.length := by omega
    have hd1 : (decide ((k : Int) < (f.lots.length : Int)) && decide ((k : Int) < 20)) = true := by
      rw [Bool.and_eq_true, decide_eq_true_eq, decide_eq_true_eq]; omega
    have hPd : Pk k = !(decide (((f.lots.getD k default).inn.length : Int) > 70) || decide (((f.lots.getD k default).perm.length : Int) > 70)) := by rw [hPk]
    cases hp : (decide (((f.lots.getD k default).inn.length : Int) > 70) || decide (((f.lots.getD k default).perm.length : Int) > 70)) with
    | false =>
      repeat' (first
        | (with_reducible refine aw_seq ?_)
        | ((with_reducible refine twoG_intro ?_ ?_) <;> intro hTw <;> first | (exact Bool.noConfusion hTw) | ((try simp only [hTw, Bool.not_true, Bool.not_false, Bool.true_and, Bool.false_and, Bool.and_true, Bool.and_false, Bool.true_or, Bool.false_or, Bool.or_true, Bool.or_false]); (first | (guard_hyp hTw : true = true; clear hTw) | (guard_hyp hTw : false = false; clear hTw) | (revert hTw; intro _))))
        | ((with_reducible refine two_intro ?_ ?_) <;> intro hTw <;> first | (exact Bool.noConfusion hTw) | ((first | (guard_hyp hTw : true = true; clear hTw) | (guard_hyp hTw : false = false; clear hTw) | (revert hTw; intro _))))
        | ((with_reducible refine And.intro ?_ ?_); (focus (first | omega | rfl | decide | grind)))
        | (with_reducible refine aw_block ?_)
        | (with_reducible refine aw_scope ?_)
        | ((first
            | ((with_reducible refine aw_regionA T_ok ?_ ?_); (focus kernel_rfl))
            | ((with_reducible refine aw_drawnA T_ok ?_ ?_ ?_ ?_); (focus kernel_rfl); (focus kernel_rfl); (focus (decide +kernel)))
            | ((with_reducible refine aw_drawnF T_ok ?_ ?_ ?_ ?_); (focus kernel_rfl); (focus kernel_rfl); (focus (decide +kernel)))
            | (with_reducible refine aw_label ?_)
            | ((with_reducible refine aw_rfM ?_ ?_); (focus kernel_rfl))
            | (with_reducible refine aw_skip ?_)
            | (with_reducible refine aw_exit ?_)
            | ((with_reducible refine aw_condM ?_ ?_); (focus kernel_rfl))
            | (with_reducible refine aw_ret ?_)
          ); simp only [↓avP, avQ, if_true, if_false, forall_const, beq_self_eq_true, eq_self, ne_eq, implies_true, reduceIte, Nat.reduceEqDiff, Nat.reduceAdd, Nat.reduceSub, Int.reduceToNat, Nat.reduceLeDiff, Nat.reduceLT, reduceCtorEq, Int.reduceEq, retQ, retL, resV, RetV, RetOk, SubL, intD_B, lotD_B, flowD_B, snocI, ty_3, ty_27, ty_4, ty_24, ty_40, ty_22, ty_31, ← List.map_take, issD_get, hd1, hp]; try simp (disch := omega) only [av_w, av_t1, av_tp, Int.toNat_natCast]))
      refine ⟨k + 1, ⟨by omega, fun i hi => by rcases Nat.lt_succ_iff_lt_or_eq.1 hi with h | rfl; exact h0 i h; rw [hPd, hp]; rfl⟩, by dsimp only; omega, wk_of [(0, some 0)] rfl rfl ?_ ?_⟩
      · simp only [wkT, wkB, wkB1, subV, subVs, subD, subB, lkN_n, lkN_c, lkT_n, lkT_c, lkB_n, lkB_c, if_true, if_false, reduceIte, Nat.reduceEqDiff, true_and, and_true, and_self, inT, ofA]
        (repeat' (first | exact trivial | rfl | exact rfl | exact subVs_d _ _ | exact subVs_dm _ _ | exact subD_refl _ | refine And.intro ?_ ?_))
      · simp only [wkT, wkB, wkB1, subV, subVs, subD, subB, lkN_n, lkN_c, lkT_n, lkT_c, lkB_n, lkB_c, if_true, if_false, reduceIte, Nat.reduceEqDiff, true_and, and_true, and_self, inT, ofA]
        (repeat' (first | exact trivial | rfl | exact rfl | exact subVs_d _ _ | exact subVs_dm _ _ | exact subD_refl _ | refine And.intro ?_ ?_))
    | true =>
      repeat' (first
        | (with_reducible refine aw_seq ?_)
        | ((with_reducible refine twoG_intro ?_ ?_) <;> intro hTw <;> first | (exact Bool.noConfusion hTw) | ((try simp only [hTw, Bool.not_true, Bool.not_false, Bool.true_and, Bool.false_and, Bool.and_true, Bool.and_false, Bool.true_or, Bool.false_or, Bool.or_true, Bool.or_false]); (first | (guard_hyp hTw : true = true; clear hTw) | (guard_hyp hTw : false = false; clear hTw) | (revert hTw; intro _))))
        | ((with_reducible refine two_intro ?_ ?_) <;> intro hTw <;> first | (exact Bool.noConfusion hTw) | ((first | (guard_hyp hTw : true = true; clear hTw) | (guard_hyp hTw : false = false; clear hTw) | (revert hTw; intro _))))
        | ((with_reducible refine And.intro ?_ ?_); (focus (first | omega | rfl | decide | grind)))
        | (with_reducible refine aw_block ?_)
        | (with_reducible refine aw_scope ?_)
        | ((first
            | ((with_reducible refine aw_regionA T_ok ?_ ?_); (focus kernel_rfl))
            | ((with_reducible refine aw_drawnA T_ok ?_ ?_ ?_ ?_); (focus kernel_rfl); (focus kernel_rfl); (focus (decide +kernel)))
            | ((with_reducible refine aw_drawnF T_ok ?_ ?_ ?_ ?_); (focus kernel_rfl); (focus kernel_rfl); (focus (decide +kernel)))
            | (with_reducible refine aw_label ?_)
            | ((with_reducible refine aw_rfM ?_ ?_); (focus kernel_rfl))
            | (with_reducible refine aw_skip ?_)
            | (with_reducible refine aw_exit ?_)
            | ((with_reducible refine aw_condM ?_ ?_); (focus kernel_rfl))
            | (with_reducible refine aw_ret ?_)
          ); simp only [↓avP, avQ, if_true, if_false, forall_const, beq_self_eq_true, eq_self, ne_eq, implies_true, reduceIte, Nat.reduceEqDiff, Nat.reduceAdd, Nat.reduceSub, Int.reduceToNat, Nat.reduceLeDiff, Nat.reduceLT, reduceCtorEq, Int.reduceEq, retQ, retL, resV, RetV, RetOk, SubL, intD_B, lotD_B, flowD_B, snocI, ty_3, ty_27, ty_4, ty_24, ty_40, ty_22, ty_31, ← List.map_take, issD_get, hd1, hp]; try simp (disch := omega) only [av_w, av_t1, av_tp, Int.toNat_natCast]))
      exact Sub.of_eq (congrArg aB (by rw [hres, all_fail hlt (by rw [hPd, hp]; rfl)]; rfl))
  · have hkm : k = min f.lots.length 20 := by omega
    have hd1 : (decide ((k : Int) < (f.lots.length : Int)) && decide ((k : Int) < 20)) = false := by
      rw [Bool.and_eq_false_iff, decide_eq_false_iff_not, decide_eq_false_iff_not]; omega
    rw [hkm] at h0
    have hT := all_done h0
    repeat' (first
      | (with_reducible refine aw_seq ?_)
      | ((with_reducible refine twoG_intro ?_ ?_) <;> intro hTw <;> first | (exact Bool.noConfusion hTw) | ((try simp only [hTw, Bool.not_true, Bool.not_false, Bool.true_and, Bool.false_and, Bool.and_true, Bool.and_false, Bool.true_or, Bool.false_or, Bool.or_true, Bool.or_false]); (first | (guard_hyp hTw : true = true; clear hTw) | (guard_hyp hTw : false = false; clear hTw) | (revert hTw; intro _))))
      | ((with_reducible refine two_intro ?_ ?_) <;> intro hTw <;> first | (exact Bool.noConfusion hTw) | ((first | (guard_hyp hTw : true = true; clear hTw) | (guard_hyp hTw : false = false; clear hTw) | (revert hTw; intro _))))
      | ((with_reducible refine And.intro ?_ ?_); (focus (first | omega | rfl | decide | grind)))
      | (with_reducible refine aw_block ?_)
      | (with_reducible refine aw_scope ?_)
      | ((first
          | ((with_reducible refine aw_regionA T_ok ?_ ?_); (focus kernel_rfl))
          | ((with_reducible refine aw_drawnA T_ok ?_ ?_ ?_ ?_); (focus kernel_rfl); (focus kernel_rfl); (focus (decide +kernel)))
          | ((with_reducible refine aw_drawnF T_ok ?_ ?_ ?_ ?_); (focus kernel_rfl); (focus kernel_rfl); (focus (decide +kernel)))
          | (with_reducible refine aw_label ?_)
          | ((with_reducible refine aw_rfM ?_ ?_); (focus kernel_rfl))
          | (with_reducible refine aw_skip ?_)
          | (with_reducible refine aw_exit ?_)
          | ((with_reducible refine aw_condM ?_ ?_); (focus kernel_rfl))
          | (with_reducible refine aw_ret ?_)
        ); simp only [↓avP, avQ, if_true, if_false, forall_const, beq_self_eq_true, eq_self, ne_eq, implies_true, reduceIte, Nat.reduceEqDiff, Nat.reduceAdd, Nat.reduceSub, Int.reduceToNat, Nat.reduceLeDiff, Nat.reduceLT, reduceCtorEq, Int.reduceEq, retQ, retL, resV, RetV, RetOk, SubL, intD_B, lotD_B, flowD_B, snocI, ty_3, ty_27, ty_4, ty_24, ty_40, ty_22, ty_31, ← List.map_take, issD_get, hd1]; try simp (disch := omega) only [av_w, av_t1, av_tp, Int.toNat_natCast]))
    exact Sub.of_eq (congrArg aB (by rw [hres, hT, Bool.true_and, Bool.eq_iff_iff]; simp; omega))
def endsF (f : FlowP) : List Int := ((List.range (befF f f.lots.length).toNat).map fun n : Nat => (n : Int)).filter fun s => !decide (s ∈ goneF f f.lots.length)
def endAt (f : FlowP) (k : Nat) : List Int := ((List.range k).map fun n : Nat => (n : Int)).filter fun s => !decide (s ∈ goneF f f.lots.length)
theorem endAt_succ (f : FlowP) (k : Nat) : endAt f (k + 1) = endAt f k ++ (if decide ((k : Int) ∈ goneF f f.lots.length) = true then [] else [(k : Int)]) := by
  unfold endAt
  rw [List.range_succ, List.map_append, List.filter_append]
  congr 1
  simp only [List.map_cons, List.map_nil, List.filter_cons, List.filter_nil]
  by_cases h : (k : Int) ∈ goneF f f.lots.length <;> simp [h]
theorem endAt_len (f : FlowP) (k : Nat) : (endAt f k).length ≤ k := by
  unfold endAt
  exact Nat.le_trans (List.length_filter_le _ _) (by simp)
theorem checkF_zero {f : FlowP} (h : checkF f = 0) : f.senders ≤ 64 ∧ f.lots.length ≤ 2000 ∧ befF f f.lots.length ≤ 50000 ∧ 0 ≤ f.senders ∧ ∀ k, k < f.lots.length → okAt f k = true := by
  unfold checkF at h
  split at h
  · cases h
  · rename_i h1
    split at h
    · cases h
    · rename_i h2
      split at h
      · rename_i h3
        refine ⟨by omega, by omega, by omega, by omega, fun k hk => ?_⟩
        unfold validF at h3
        exact List.all_eq_true.1 h3 k (by simpa using hk)
      · cases h
theorem checkF_small {f : FlowP} (h : checkF f = 0) : SmallF f := by
  have := checkF_zero h
  exact ⟨by omega, by omega⟩
def endsR (f : FlowP) : List Int := if checkF f = 0 then endsF f else []
end Go.Proofs.Ytncihbmehbiekaa


namespace Go.Proofs.Ytncihbmehbiekaa
set_option linter.unusedSimpArgs false
set_option linter.unusedVariables false
open Go.RowKit
theorem snocL (l : List LotP) (x : LotP) : l.map lotD ++ [lotD x] = (l ++ [x]).map lotD := by simp
set_option maxRecDepth 100000
set_option maxHeartbeats 4000000
def knownF (f : FlowP) : Bool := (List.range f.lots.length).all fun k => !(!(f.lots.getD k default).known)
theorem knownF_at {f : FlowP} (h : knownF f = true) {k : Nat} (hk : k < f.lots.length) : (f.lots.getD k default).known = true := by
  have := List.all_eq_true.1 h k (by simpa using hk)
  simpa using this
def stepF (bef : Int) (x : LotP) (s : Int) : Int := if s ∈ x.inn then bef + x.perm.getD (x.inn.idxOf s) 0 else s
def followK (f : FlowP) : Nat → Int → Int
  | 0, s => s
  | k + 1, s => stepF (befF f k) (f.lots.getD k default) (followK f k s)
/-- what a valid, known lot is -/
structure GoodL (bef : Int) (gone : List Int) (x : LotP) : Prop where
  ne : x.inn.length ≠ 0
  nd : x.inn.Nodup
  fr : ∀ s ∈ x.inn, 0 ≤ s ∧ s < bef ∧ s ∉ gone
  pl : x.known = true → x.perm.length = x.inn.length ∧ x.perm.Nodup ∧ ∀ i ∈ x.perm, 0 ≤ i ∧ i < (x.inn.length : Int)
  pu : x.known = false → x.perm = []
theorem goodL_iff (bef : Int) (gone : List Int) (x : LotP) : lotB bef gone x = true ↔ GoodL bef gone x := by
  unfold lotB diffB
  simp only [Bool.and_eq_true, decide_eq_true_eq, List.all_eq_true, freeB, Bool.not_eq_true', decide_eq_false_iff_not]
  constructor
  · rintro ⟨⟨h1, h2, h3⟩, h4⟩
    refine ⟨h1, h2, fun s hs => ?_, fun hk => ?_, fun hk => ?_⟩
    · have := h3 s hs
      exact ⟨this.1.1, this.1.2, this.2⟩
    · rw [if_pos hk] at h4
      simp only [Bool.and_eq_true, decide_eq_true_eq, List.all_eq_true, outB] at h4
      exact ⟨h4.1, h4.2.1, h4.2.2⟩
    · rw [if_neg (by rw [hk]; simp)] at h4
      exact List.eq_nil_of_length_eq_zero (by simpa using h4)
  · rintro ⟨h1, h2, h3, h4, h5⟩
    refine ⟨⟨h1, h2, fun s hs => ?_⟩, ?_⟩
    · have := h3 s hs
      exact ⟨⟨this.1, this.2.1⟩, this.2.2⟩
    · by_cases hk : x.known = true
      · obtain ⟨g1, g2, g3⟩ := h4 hk
        rw [if_pos hk]
        simp only [Bool.and_eq_true, decide_eq_true_eq, List.all_eq_true, outB]
        exact ⟨g1, g2, g3⟩
      · rw [if_neg hk, h5 (by simpa using hk)]
        rfl
theorem goodL_at {f : FlowP} (h : checkF f = 0) {k : Nat} (hk : k < f.lots.length) : GoodL (befF f k) (goneF f k) (f.lots.getD k default) := (goodL_iff _ _ _).1 ((checkF_zero h).2.2.2.2 k hk)
theorem stepF_take {bef : Int} {x : LotP} {s : Int} (hn : x.inn.Nodup) {j : Nat} (hj : j < x.inn.length) : (if s ∈ x.inn.take (j + 1) then bef + x.perm.getD (x.inn.idxOf s) 0 else s) = if x.inn.getD j 0 = s then bef + x.perm.getD j 0 else if s ∈ x.inn.take j then bef + x.perm.getD (x.inn.idxOf s) 0 else s := by
  have hg : x.inn.getD j 0 = x.inn[j] := by simp [List.getD, hj]
  rw [List.take_succ_eq_append_getElem hj, hg]
  by_cases he : x.inn[j] = s
  · rw [if_pos he, if_pos (by simp [he])]
    have : x.inn.idxOf s = j := by rw [← he]; exact hn.idxOf_getElem j hj
    rw [this]
  · rw [if_neg he]
    have : s ∈ x.inn.take j ++ [x.inn[j]] ↔ s ∈ x.inn.take j := by
      simp only [List.mem_append, List.mem_singleton]
      exact ⟨fun h => h.elim id (fun e => absurd e.symm he), Or.inl⟩
    simp only [this]
def mapAt (f : FlowP) (k : Nat) : List Int := (List.range k).map fun s : Nat => followK f f.lots.length s
theorem mapAt_len (f : FlowP) (k : Nat) : (mapAt f k).length = k := by simp [mapAt]
def errM (f : FlowP) : Int := if checkF f ≠ 0 then checkF f else if knownF f = true then 0 else 1
def mapR (f : FlowP) : List Int := if errM f = 0 then mapAt f f.senders.toNat else []
def seesB (lines : List (List Int)) (coal : List Int) (k : Nat) : Bool := (lines.getD k []).all fun x => decide (x ∈ coal)
def viewL (f : FlowP) (lines : List (List Int)) (coal : List Int) (k : Nat) : LotP := if seesB lines coal k = true then f.lots.getD k default else ⟨(f.lots.getD k default).inn, false, []⟩
/-- its cells, as the code lays them: no permutation is nil -/
def viewE (f : FlowP) (lines : List (List Int)) (coal : List Int) (k : Nat) : List D := if seesB lines coal k = true then lotD (f.lots.getD k default) else [.sl 1 (intD 0) ((f.lots.getD k default).inn.map intD), .c (.bool false), .c (.slice none 0 0)]
theorem viewE_sub (f : FlowP) (lines : List (List Int)) (coal : List Int) (k : Nat) : SubDL (viewE f lines coal k) (lotD (viewL f lines coal k)) := by
  unfold viewE viewL
  split
  · exact SubDL.refl _
  · exact ⟨SubD.refl _, SubD.refl _, SubD.of _ _ rfl, trivial⟩
def viewEs (f : FlowP) (lines : List (List Int)) (coal : List Int) (k : Nat) : List (List D) := (List.range k).map (viewE f lines coal)
theorem viewEs_succ (f : FlowP) (lines : List (List Int)) (coal : List Int) (k : Nat) : viewEs f lines coal (k + 1) = viewEs f lines coal k ++ [viewE f lines coal k] := by simp [viewEs, List.range_succ]
theorem viewEs_len (f : FlowP) (lines : List (List Int)) (coal : List Int) (k : Nat) : (viewEs f lines coal k).length = k := by simp [viewEs]
def viewAt (f : FlowP) (lines : List (List Int)) (coal : List Int) (k : Nat) : List LotP := (List.range k).map (viewL f lines coal)
theorem viewAt_len (f : FlowP) (lines : List (List Int)) (coal : List Int) (k : Nat) : (viewAt f lines coal k).length = k := by simp [viewAt]
def errV (f : FlowP) (lines : List (List Int)) (coal : List Int) : Int := if checkF f ≠ 0 then checkF f else if (knownF f && linesB lines f.lots.length && coalB coal) = true then 0 else 1
instance : Inhabited FlowP := ⟨⟨0, []⟩⟩
def viewR (f : FlowP) (lines : List (List Int)) (coal : List Int) : FlowP := if errV f lines coal = 0 then ⟨f.senders, viewAt f lines coal f.lots.length⟩ else default
end Go.Proofs.Ytncihbmehbiekaa

