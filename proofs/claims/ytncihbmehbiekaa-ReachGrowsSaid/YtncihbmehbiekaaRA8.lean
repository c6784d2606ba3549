import Derived.Test.YtncihbmehbiekaaRA5
import Derived.Test.YtncihbmehbiekaaRA2
namespace Go.Proofs.Ytncihbmehbiekaa
set_option linter.unusedSimpArgs false
set_option linter.unusedVariables false
open Go.RowKit
set_option maxRecDepth 100000
set_option maxHeartbeats 4000000
def idxP (p : Nat → Bool) (n : Nat) : Int := match (List.range n).find? p with
  | some i => i
  | none => -1
theorem idxP_hit {p : Nat → Bool} {n k : Nat} (hk : k < n) (h : p k = true) (h0 : ∀ i, i < k → p i = false) : idxP p n = k := by
  have : (List.range n).find? p = some k := by
    rw [List.find?_range_eq_some]
    exact ⟨h, by simpa using hk, fun j hj => by rw [h0 j hj]; rfl⟩
  rw [idxP, this]
theorem idxP_miss {p : Nat → Bool} {n : Nat} (h0 : ∀ i, i < n → p i = false) : idxP p n = -1 := by
  have : (List.range n).find? p = none := by
    rw [List.find?_eq_none]
    intro i hi
    rw [h0 i (by simpa using hi)]; simp
  rw [idxP, this]
theorem idxP_any (p : Nat → Bool) (n : Nat) : decide (idxP p n ≥ 0) = (List.range n).any p := by
  unfold idxP
  cases h : (List.range n).find? p with
  | some i =>
    rw [decide_eq_true (by show (i : Int) ≥ 0; omega)]
    have := List.find?_some h
    have hm := List.mem_of_find?_eq_some h
    exact (List.any_eq_true.2 ⟨i, hm, this⟩).symm
  | none =>
    rw [decide_eq_false (by show ¬ (-1 : Int) ≥ 0; omega)]
    rw [List.find?_eq_none] at h
    exact (List.any_eq_false.2 h).symm
theorem mem_getD {α : Type} {l : List α} {d : α} {k : Nat} (h : k < l.length) : l.getD k d ∈ l := by
  rw [List.getD, List.getElem?_eq_getElem h]; simp
theorem any_getD {α : Type} (l : List α) (d : α) (p : α → Bool) : ((List.range l.length).any fun k => p (l.getD k d)) = l.any p := by
  rw [Bool.eq_iff_iff, List.any_eq_true, List.any_eq_true]
  constructor
  · rintro ⟨i, hi, h⟩
    have hi : i < l.length := by simpa using hi
    have e : l.getD i d = l[i] := by simp [List.getD, hi]
    rw [e] at h
    exact ⟨_, List.getElem_mem hi, h⟩
  · rintro ⟨x, hx, h⟩
    obtain ⟨i, hi, rfl⟩ := List.getElem_of_mem hx
    refine ⟨i, by simpa using hi, ?_⟩
    have e : l.getD i d = l[i] := by simp [List.getD, hi]
    rw [e]; exact h
theorem ints_index (l : List Int) (p : Int → Bool) (hl : l.length ≤ 140737488351232) : Spec Try.prog 69 [aIs l, .one (.x (FnR Try.prog (FnM aI p l)))] (.r1 (aI (idxP (fun k => p (l.getD k 0)) l.length))) := by
  refine spec_of T_ok Try.func69 (by dsimp only [Try.f69]) rfl rfl (by simp) fun w F => ?_
  obtain ⟨Pk, hPk⟩ : ∃ Pk : Nat → Bool, Pk = (fun k => p (l.getD k 0)) := ⟨_, rfl⟩
  rw [← hPk]
  repeat' (first
    | (with_reducible refine aw_seq ?_)
    | ((with_reducible refine twoG_intro ?_ ?_) <;> intro hTw <;> first | (exact Bool.noConfusion hTw) | ((try simp only [hTw, Bool.not_true, Bool.not_false, Bool.true_and, Bool.false_and, Bool.and_true, Bool.and_false, Bool.true_or, Bool.false_or, Bool.or_true, Bool.or_false]); (first | (guard_hyp hTw : true = true; clear hTw) | (guard_hyp hTw : false = false; clear hTw) | (revert hTw; intro _))))
    | ((with_reducible refine two_intro ?_ ?_) <;> intro hTw <;> first | (exact Bool.noConfusion hTw) | ((first | (guard_hyp hTw : true = true; clear hTw) | (guard_hyp hTw : false = false; clear hTw) | (revert hTw; intro _))))
    | ((with_reducible refine And.intro ?_ ?_); (focus (first | omega | rfl | decide | grind)))
    | (with_reducible refine aw_block ?_)
    | (with_reducible refine aw_scope ?_)
    | ((first
        | ((with_reducible refine aw_regionA T_ok ?_ ?_); (focus kernel_rfl))
        | ((with_reducible refine aw_drawnA T_ok ?_ ?_ ?_ ?_); (focus kernel_rfl); (focus kernel_rfl); (focus (decide +kernel)))
        | ((with_reducible refine aw_drawnF T_ok ?_ ?_ ?_ ?_); (focus kernel_rfl); (focus kernel_rfl); (focus (decide +kernel)))
        | (with_reducible refine aw_label ?_)
        | ((with_reducible refine aw_rfM ?_ ?_); (focus kernel_rfl))
        | (with_reducible refine aw_skip ?_)
        | (with_reducible refine aw_exit ?_)
        | ((with_reducible refine aw_condM ?_ ?_); (focus kernel_rfl))
        | (with_reducible refine aw_ret ?_)
      ); simp only [↓avP, avQ, if_true, if_false, forall_const, beq_self_eq_true, eq_self, ne_eq, implies_true, reduceIte, Nat.reduceEqDiff, Nat.reduceAdd, Nat.reduceSub, Int.reduceToNat, Nat.reduceLeDiff, Nat.reduceLT, reduceCtorEq, Int.reduceEq, retQ, retL, resV, RetV, RetOk, SubL, intD_B, lotD_B, snocI, ty_3, ty_27, ty_4, ty_40, ty_22, ty_31, issD_get]; try simp (disch := omega) only [av_w, av_t1, av_tp, Int.toNat_natCast]))
  refine aw_loopI (fun k : Nat => ⟨[(0, vIs l), (1, .d (.x (FnR Try.prog (FnM aI p l)))), (7, vI l.length), (8, vI k)], [], 0⟩) (fun k => k ≤ l.length ∧ ∀ i, i < k → Pk i = false) (fun k => l.length - k) 0 ⟨Nat.zero_le _, fun i hi => absurd hi (Nat.not_lt_zero i)⟩ (wk_of [] rfl rfl ?_ ?_) ?_
  · simp only [wkT, wkB, wkB1, subV, subVs, subD, subB, lkN_n, lkN_c, lkT_n, lkT_c, lkB_n, lkB_c, if_true, if_false, reduceIte, Nat.reduceEqDiff, true_and, and_true, and_self, inT, ofA]
    (repeat' (first | exact trivial | rfl | exact rfl | exact subVs_d _ _ | exact subVs_dm _ _ | exact subD_refl _ | refine And.intro ?_ ?_))
  · simp only [wkT, wkB, wkB1, subV, subVs, subD, subB, lkN_n, lkN_c, lkT_n, lkT_c, lkB_n, lkB_c, if_true, if_false, reduceIte, Nat.reduceEqDiff, true_and, and_true, and_self, inT, ofA]
  rintro k ⟨hk, h0⟩
  rcases Nat.lt_or_ge k l.length with hlt | hge
  · have hd := ltd hlt
    cases hp : p (l.getD k 0) with
    | false =>
      repeat' (first
        | (with_reducible refine aw_seq ?_)
        | ((with_reducible refine twoG_intro ?_ ?_) <;> intro hTw <;> first | (exact Bool.noConfusion hTw) | ((try simp only [hTw, Bool.not_true, Bool.not_false, Bool.true_and, Bool.false_and, Bool.and_true, Bool.and_false, Bool.true_or, Bool.false_or, Bool.or_true, Bool.or_false]); (first | (guard_hyp hTw : true = true; clear hTw) | (guard_hyp hTw : false = false; clear hTw) | (revert hTw; intro _))))
        | ((with_reducible refine two_intro ?_ ?_) <;> intro hTw <;> first | (exact Bool.noConfusion hTw) | ((first | (guard_hyp hTw : true = true; clear hTw) | (guard_hyp hTw : false = false; clear hTw) | (revert hTw; intro _))))
        | ((with_reducible refine And.intro ?_ ?_); (focus (first | omega | rfl | decide | grind)))
        | (with_reducible refine aw_block ?_)
        | (with_reducible refine aw_scope ?_)
        | ((first
            | ((with_reducible refine aw_regionA T_ok ?_ ?_); (focus kernel_rfl))
            | ((with_reducible refine aw_drawnA T_ok ?_ ?_ ?_ ?_); (focus kernel_rfl); (focus kernel_rfl); (focus (decide +kernel)))
            | ((with_reducible refine aw_drawnF T_ok ?_ ?_ ?_ ?_); (focus kernel_rfl); (focus kernel_rfl); (focus (decide +kernel)))
            | ((with_reducible refine slotX_M ((l.getD k 0)) ((mem_getD hlt)) (by with_unfolding_all rfl) ?_ ?_); (focus kernel_rfl))
            | (with_reducible refine aw_label ?_)
            | ((with_reducible refine aw_rfM ?_ ?_); (focus kernel_rfl))
            | (with_reducible refine aw_skip ?_)
            | (with_reducible refine aw_exit ?_)
            | ((with_reducible refine aw_condM ?_ ?_); (focus kernel_rfl))
            | (with_reducible refine aw_ret ?_)
          ); simp only [↓avP, avQ, if_true, if_false, forall_const, beq_self_eq_true, eq_self, ne_eq, implies_true, reduceIte, Nat.reduceEqDiff, Nat.reduceAdd, Nat.reduceSub, Int.reduceToNat, Nat.reduceLeDiff, Nat.reduceLT, reduceCtorEq, Int.reduceEq, retQ, retL, resV, RetV, RetOk, SubL, intD_B, lotD_B, snocI, ty_3, ty_27, ty_4, ty_40, ty_22, ty_31, issD_get, hd, hp]; try simp (disch := omega) only [av_w, av_t1, av_tp, Int.toNat_natCast]))
      refine ⟨k + 1, ⟨by omega, fun i hi => by rcases Nat.lt_succ_iff_lt_or_eq.1 hi with h | rfl; exact h0 i h; rw [hPk]; exact hp⟩, by dsimp only; omega, wk_of [] rfl rfl ?_ ?_⟩
      · simp only [wkT, wkB, wkB1, subV, subVs, subD, subB, lkN_n, lkN_c, lkT_n, lkT_c, lkB_n, lkB_c, if_true, if_false, reduceIte, Nat.reduceEqDiff, true_and, and_true, and_self, inT, ofA]
        (repeat' (first | exact trivial | rfl | exact rfl | exact subVs_d _ _ | exact subVs_dm _ _ | exact subD_refl _ | refine And.intro ?_ ?_))
      · simp only [wkT, wkB, wkB1, subV, subVs, subD, subB, lkN_n, lkN_c, lkT_n, lkT_c, lkB_n, lkB_c, if_true, if_false, reduceIte, Nat.reduceEqDiff, true_and, and_true, and_self, inT, ofA]
    | true =>
      repeat' (first
        | (with_reducible refine aw_seq ?_)
        | ((with_reducible refine twoG_intro ?_ ?_) <;> intro hTw <;> first | (exact Bool.noConfusion hTw) | ((try simp only [hTw, Bool.not_true, Bool.not_false, Bool.true_and, Bool.false_and, Bool.and_true, Bool.and_false, Bool.true_or, Bool.false_or, Bool.or_true, Bool.or_false]); (first | (guard_hyp hTw : true = true; clear hTw) | (guard_hyp hTw : false = false; clear hTw) | (revert hTw; intro _))))
        | ((with_reducible refine two_intro ?_ ?_) <;> intro hTw <;> first | (exact Bool.noConfusion hTw) | ((first | (guard_hyp hTw : true = true; clear hTw) | (guard_hyp hTw : false = false; clear hTw) | (revert hTw; intro _))))
        | ((with_reducible refine And.intro ?_ ?_); (focus (first | omega | rfl | decide | grind)))
        | (with_reducible refine aw_block ?_)
        | (with_reducible refine aw_scope ?_)
        | ((first
            | ((with_reducible refine aw_regionA T_ok ?_ ?_); (focus kernel_rfl))
            | ((with_reducible refine aw_drawnA T_ok ?_ ?_ ?_ ?_); (focus kernel_rfl); (focus kernel_rfl); (focus (decide +kernel)))
            | ((with_reducible refine aw_drawnF T_ok ?_ ?_ ?_ ?_); (focus kernel_rfl); (focus kernel_rfl); (focus (decide +kernel)))
            | ((with_reducible refine slotX_M ((l.getD k 0)) ((mem_getD hlt)) (by with_unfolding_all rfl) ?_ ?_); (focus kernel_rfl))
            | (with_reducible refine aw_label ?_)
            | ((with_reducible refine aw_rfM ?_ ?_); (focus kernel_rfl))
            | (with_reducible refine aw_skip ?_)
            | (with_reducible refine aw_exit ?_)
            | ((with_reducible refine aw_condM ?_ ?_); (focus kernel_rfl))
            | (with_reducible refine aw_ret ?_)
          ); simp only [↓avP, avQ, if_true, if_false, forall_const, beq_self_eq_true, eq_self, ne_eq, implies_true, reduceIte, Nat.reduceEqDiff, Nat.reduceAdd, Nat.reduceSub, Int.reduceToNat, Nat.reduceLeDiff, Nat.reduceLT, reduceCtorEq, Int.reduceEq, retQ, retL, resV, RetV, RetOk, SubL, intD_B, lotD_B, snocI, ty_3, ty_27, ty_4, ty_40, ty_22, ty_31, issD_get, hd, hp]; try simp (disch := omega) only [av_w, av_t1, av_tp, Int.toNat_natCast]))
      exact Sub.of_eq (congrArg aI (idxP_hit hlt (by rw [hPk]; exact hp) h0).symm)
  · obtain rfl : k = l.length := by omega
    have hd := ged (Nat.le_refl l.length)
    repeat' (first
      | (with_reducible refine aw_seq ?_)
      | ((with_reducible refine twoG_intro ?_ ?_) <;> intro hTw <;> first | (exact Bool.noConfusion hTw) | ((try simp only [hTw, Bool.not_true, Bool.not_false, Bool.true_and, Bool.false_and, Bool.and_true, Bool.and_false, Bool.true_or, Bool.false_or, Bool.or_true, Bool.or_false]); (first | (guard_hyp hTw : true = true; clear hTw) | (guard_hyp hTw : false = false; clear hTw) | (revert hTw; intro _))))
      | ((with_reducible refine two_intro ?_ ?_) <;> intro hTw <;> first | (exact Bool.noConfusion hTw) | ((first | (guard_hyp hTw : true = true; clear hTw) | (guard_hyp hTw : false = false; clear hTw) | (revert hTw; intro _))))
      | ((with_reducible refine And.intro ?_ ?_); (focus (first | omega | rfl | decide | grind)))
      | (with_reducible refine aw_block ?_)
      | (with_reducible refine aw_scope ?_)
      | ((first
          | ((with_reducible refine aw_regionA T_ok ?_ ?_); (focus kernel_rfl))
          | ((with_reducible refine aw_drawnA T_ok ?_ ?_ ?_ ?_); (focus kernel_rfl); (focus kernel_rfl); (focus (decide +kernel)))
          | ((with_reducible refine aw_drawnF T_ok ?_ ?_ ?_ ?_); (focus kernel_rfl); (focus kernel_rfl); (focus (decide +kernel)))
          | (with_reducible refine aw_label ?_)
          | ((with_reducible refine aw_rfM ?_ ?_); (focus kernel_rfl))
          | (with_reducible refine aw_skip ?_)
          | (with_reducible refine aw_exit ?_)
          | ((with_reducible refine aw_condM ?_ ?_); (focus kernel_rfl))
          | (with_reducible refine aw_ret ?_)
        ); simp only [↓avP, avQ, if_true, if_false, forall_const, beq_self_eq_true, eq_self, ne_eq, implies_true, reduceIte, Nat.reduceEqDiff, Nat.reduceAdd, Nat.reduceSub, Int.reduceToNat, Nat.reduceLeDiff, Nat.reduceLT, reduceCtorEq, Int.reduceEq, retQ, retL, resV, RetV, RetOk, SubL, intD_B, lotD_B, snocI, ty_3, ty_27, ty_4, ty_40, ty_22, ty_31, issD_get, hd]; try simp (disch := omega) only [av_w, av_t1, av_tp, Int.toNat_natCast]))
    exact Sub.of_eq (congrArg aI (idxP_miss h0).symm)
theorem ints_contains (l : List Int) (p : Int → Bool) (hl : l.length ≤ 140737488351232) : Spec Try.prog 51 [aIs l, .one (.x (FnR Try.prog (FnM aI p l)))] (.r1 (aB (l.any p))) := by
  refine spec_of T_ok Try.func51 (by dsimp only [Try.f51]) rfl rfl (by simp) fun w F => ?_
  repeat' (first
    | (with_reducible refine aw_seq ?_)
    | ((with_reducible refine twoG_intro ?_ ?_) <;> intro hTw <;> first | (exact Bool.noConfusion hTw) | ((try simp only [hTw, Bool.not_true, Bool.not_false, Bool.true_and, Bool.false_and, Bool.and_true, Bool.and_false, Bool.true_or, Bool.false_or, Bool.or_true, Bool.or_false]); (first | (guard_hyp hTw : true = true; clear hTw) | (guard_hyp hTw : false = false; clear hTw) | (revert hTw; intro _))))
    | ((with_reducible refine two_intro ?_ ?_) <;> intro hTw <;> first | (exact Bool.noConfusion hTw) | ((first | (guard_hyp hTw : true = true; clear hTw) | (guard_hyp hTw : false = false; clear hTw) | (revert hTw; intro _))))
    | ((with_reducible refine And.intro ?_ ?_); (focus (first | omega | rfl | decide | grind)))
    | (with_reducible refine aw_block ?_)
    | (with_reducible refine aw_scope ?_)
    | ((first
        | ((with_reducible refine aw_regionA T_ok ?_ ?_); (focus kernel_rfl))
        | ((with_reducible refine aw_drawnA T_ok ?_ ?_ ?_ ?_); (focus kernel_rfl); (focus kernel_rfl); (focus (decide +kernel)))
        | ((with_reducible refine aw_drawnF T_ok ?_ ?_ ?_ ?_); (focus kernel_rfl); (focus kernel_rfl); (focus (decide +kernel)))
        | ((with_reducible refine callK_intro (ints_index l p hl) (by with_unfolding_all rfl) ?_ ?_); (focus kernel_rfl))
        | ((with_reducible refine callI_spec (ints_index l p hl) (by with_unfolding_all rfl) ?_ ?_ ?_); (focus kernel_rfl); (focus kernel_rfl))
        | (with_reducible refine aw_label ?_)
        | ((with_reducible refine aw_rfM ?_ ?_); (focus kernel_rfl))
        | (with_reducible refine aw_skip ?_)
        | (with_reducible refine aw_exit ?_)
        | ((with_reducible refine aw_condM ?_ ?_); (focus kernel_rfl))
        | (with_reducible refine aw_ret ?_)
      ); simp only [↓avP, avQ, if_true, if_false, forall_const, beq_self_eq_true, eq_self, ne_eq, implies_true, reduceIte, Nat.reduceEqDiff, Nat.reduceAdd, Nat.reduceSub, Int.reduceToNat, Nat.reduceLeDiff, Nat.reduceLT, reduceCtorEq, Int.reduceEq, retQ, retL, resV, RetV, RetOk, SubL, intD_B, lotD_B, snocI, ty_3, ty_27, ty_4, ty_40, ty_22, ty_31, issD_get]; try simp (disch := omega) only [av_w, av_t1, av_tp, Int.toNat_natCast]))
  exact Sub.of_eq (congrArg aB (by rw [idxP_any, any_getD]))
theorem index_spec (l : List Int) (v : Int) (hl : l.length ≤ 140737488351232) : Spec Try.prog 59 [aIs l, aI v] (.r1 (aI (idxP (fun k => v == l.getD k 0) l.length))) := by
  refine spec_of T_ok Try.func59 (by dsimp only [Try.f59]) rfl rfl (by simp) fun w F => ?_
  obtain ⟨Pk, hPk⟩ : ∃ Pk : Nat → Bool, Pk = fun k => v == l.getD k 0 := ⟨_, rfl⟩
  rw [← hPk]
  repeat' (first
    | (with_reducible refine aw_seq ?_)
    | ((with_reducible refine twoG_intro ?_ ?_) <;> intro hTw <;> first | (exact Bool.noConfusion hTw) | ((try simp only [hTw, Bool.not_true, Bool.not_false, Bool.true_and, Bool.false_and, Bool.and_true, Bool.and_false, Bool.true_or, Bool.false_or, Bool.or_true, Bool.or_false]); (first | (guard_hyp hTw : true = true; clear hTw) | (guard_hyp hTw : false = false; clear hTw) | (revert hTw; intro _))))
    | ((with_reducible refine two_intro ?_ ?_) <;> intro hTw <;> first | (exact Bool.noConfusion hTw) | ((first | (guard_hyp hTw : true = true; clear hTw) | (guard_hyp hTw : false = false; clear hTw) | (revert hTw; intro _))))
    | ((with_reducible refine And.intro ?_ ?_); (focus (first | omega | rfl | decide | grind)))
    | (with_reducible refine aw_block ?_)
    | (with_reducible refine aw_scope ?_)
    | ((first
        | ((with_reducible refine aw_regionA T_ok ?_ ?_); (focus kernel_rfl))
        | ((with_reducible refine aw_drawnA T_ok ?_ ?_ ?_ ?_); (focus kernel_rfl); (focus kernel_rfl); (focus (decide +kernel)))
        | ((with_reducible refine aw_drawnF T_ok ?_ ?_ ?_ ?_); (focus kernel_rfl); (focus kernel_rfl); (focus (decide +kernel)))
        | (with_reducible refine aw_label ?_)
        | ((with_reducible refine aw_rfM ?_ ?_); (focus kernel_rfl))
        | (with_reducible refine aw_skip ?_)
        | (with_reducible refine aw_exit ?_)
        | ((with_reducible refine aw_condM ?_ ?_); (focus kernel_rfl))
        | (with_reducible refine aw_ret ?_)
      ); simp only [↓avP, avQ, if_true, if_false, forall_const, beq_self_eq_true, eq_self, ne_eq, implies_true, reduceIte, Nat.reduceEqDiff, Nat.reduceAdd, Nat.reduceSub, Int.reduceToNat, Nat.reduceLeDiff, Nat.reduceLT, reduceCtorEq, Int.reduceEq, retQ, retL, resV, RetV, RetOk, SubL, intD_B, lotD_B, snocI, ty_3, ty_27, ty_4, ty_40, ty_22, ty_31, issD_get]; try simp (disch := omega) only [av_w, av_t1, av_tp, Int.toNat_natCast]))
  refine aw_loopI (fun k : Nat => ⟨[(0, vIs l), (1, vI v), (7, vI l.length), (8, vI k)], [], 0⟩) (fun k => k ≤ l.length ∧ ∀ i, i < k → Pk i = false) (fun k => l.length - k) 0 ⟨Nat.zero_le _, fun i hi => absurd hi (Nat.not_lt_zero i)⟩ (wk_of [] rfl rfl ?_ ?_) ?_
  · simp only [wkT, wkB, wkB1, subV, subVs, subD, subB, lkN_n, lkN_c, lkT_n, lkT_c, lkB_n, lkB_c, if_true, if_false, reduceIte, Nat.reduceEqDiff, true_and, and_true, and_self, inT, ofA]
    (repeat' (first | exact trivial | rfl | exact rfl | exact subVs_d _ _ | exact subVs_dm _ _ | exact subD_refl _ | refine And.intro ?_ ?_))
  · simp only [wkT, wkB, wkB1, subV, subVs, subD, subB, lkN_n, lkN_c, lkT_n, lkT_c, lkB_n, lkB_c, if_true, if_false, reduceIte, Nat.reduceEqDiff, true_and, and_true, and_self, inT, ofA]
  rintro k ⟨hk, h0⟩
  rcases Nat.lt_or_ge k l.length with hlt | hge
  · have hd := ltd hlt
    cases hp : v == l.getD k 0 with
    | false =>
      repeat' (first
        | (with_reducible refine aw_seq ?_)
        | ((with_reducible refine twoG_intro ?_ ?_) <;> intro hTw <;> first | (exact Bool.noConfusion hTw) | ((try simp only [hTw, Bool.not_true, Bool.not_false, Bool.true_and, Bool.false_and, Bool.and_true, Bool.and_false, Bool.true_or, Bool.false_or, Bool.or_true, Bool.or_false]); (first | (guard_hyp hTw : true = true; clear hTw) | (guard_hyp hTw : false = false; clear hTw) | (revert hTw; intro _))))
        | ((with_reducible refine two_intro ?_ ?_) <;> intro hTw <;> first | (exact Bool.noConfusion hTw) | ((first | (guard_hyp hTw : true = true; clear hTw) | (guard_hyp hTw : false = false; clear hTw) | (revert hTw; intro _))))
        | ((with_reducible refine And.intro ?_ ?_); (focus (first | omega | rfl | decide | grind)))
        | (with_reducible refine aw_block ?_)
        | (with_reducible refine aw_scope ?_)
        | ((first
            | ((with_reducible refine aw_regionA T_ok ?_ ?_); (focus kernel_rfl))
            | ((with_reducible refine aw_drawnA T_ok ?_ ?_ ?_ ?_); (focus kernel_rfl); (focus kernel_rfl); (focus (decide +kernel)))
            | ((with_reducible refine aw_drawnF T_ok ?_ ?_ ?_ ?_); (focus kernel_rfl); (focus kernel_rfl); (focus (decide +kernel)))
            | (with_reducible refine aw_label ?_)
            | ((with_reducible refine aw_rfM ?_ ?_); (focus kernel_rfl))
            | (with_reducible refine aw_skip ?_)
            | (with_reducible refine aw_exit ?_)
            | ((with_reducible refine aw_condM ?_ ?_); (focus kernel_rfl))
            | (with_reducible refine aw_ret ?_)
          ); simp only [↓avP, avQ, if_true, if_false, forall_const, beq_self_eq_true, eq_self, ne_eq, implies_true, reduceIte, Nat.reduceEqDiff, Nat.reduceAdd, Nat.reduceSub, Int.reduceToNat, Nat.reduceLeDiff, Nat.reduceLT, reduceCtorEq, Int.reduceEq, retQ, retL, resV, RetV, RetOk, SubL, intD_B, lotD_B, snocI, ty_3, ty_27, ty_4, ty_40, ty_22, ty_31, issD_get, hd, hp]; try simp (disch := omega) only [av_w, av_t1, av_tp, Int.toNat_natCast]))
      refine ⟨k + 1, ⟨by omega, fun i hi => by rcases Nat.lt_succ_iff_lt_or_eq.1 hi with h | rfl; exact h0 i h; rw [hPk]; exact hp⟩, by dsimp only; omega, wk_of [] rfl rfl ?_ ?_⟩
      · simp only [wkT, wkB, wkB1, subV, subVs, subD, subB, lkN_n, lkN_c, lkT_n, lkT_c, lkB_n, lkB_c, if_true, if_false, reduceIte, Nat.reduceEqDiff, true_and, and_true, and_self, inT, ofA]
        (repeat' (first | exact trivial | rfl | exact rfl | exact subVs_d _ _ | exact subVs_dm _ _ | exact subD_refl _ | refine And.intro ?_ ?_))
      · simp only [wkT, wkB, wkB1, subV, subVs, subD, subB, lkN_n, lkN_c, lkT_n, lkT_c, lkB_n, lkB_c, if_true, if_false, reduceIte, Nat.reduceEqDiff, true_and, and_true, and_self, inT, ofA]
    | true =>
      repeat' (first
        | (with_reducible refine aw_seq ?_)
        | ((with_reducible refine twoG_intro ?_ ?_) <;> intro hTw <;> first | (exact Bool.noConfusion hTw) | ((try simp only [hTw, Bool.not_true, Bool.not_false, Bool.true_and, Bool.false_and, Bool.and_true, Bool.and_false, Bool.true_or, Bool.false_or, Bool.or_true, Bool.or_false]); (first | (guard_hyp hTw : true = true; clear hTw) | (guard_hyp hTw : false = false; clear hTw) | (revert hTw; intro _))))
        | ((with_reducible refine two_intro ?_ ?_) <;> intro hTw <;> first | (exact Bool.noConfusion hTw) | ((first | (guard_hyp hTw : true = true; clear hTw) | (guard_hyp hTw : false = false; clear hTw) | (revert hTw; intro _))))
        | ((with_reducible refine And.intro ?_ ?_); (focus (first | omega | rfl | decide | grind)))
        | (with_reducible refine aw_block ?_)
        | (with_reducible refine aw_scope ?_)
        | ((first
            | ((with_reducible refine aw_regionA T_ok ?_ ?_); (focus kernel_rfl))
            | ((with_reducible refine aw_drawnA T_ok ?_ ?_ ?_ ?_); (focus kernel_rfl); (focus kernel_rfl); (focus (decide +kernel)))
            | ((with_reducible refine aw_drawnF T_ok ?_ ?_ ?_ ?_); (focus kernel_rfl); (focus kernel_rfl); (focus (decide +kernel)))
            | (with_reducible refine aw_label ?_)
            | ((with_reducible refine aw_rfM ?_ ?_); (focus kernel_rfl))
            | (with_reducible refine aw_skip ?_)
            | (with_reducible refine aw_exit ?_)
            | ((with_reducible refine aw_condM ?_ ?_); (focus kernel_rfl))
            | (with_reducible refine aw_ret ?_)
          ); simp only [↓avP, avQ, if_true, if_false, forall_const, beq_self_eq_true, eq_self, ne_eq, implies_true, reduceIte, Nat.reduceEqDiff, Nat.reduceAdd, Nat.reduceSub, Int.reduceToNat, Nat.reduceLeDiff, Nat.reduceLT, reduceCtorEq, Int.reduceEq, retQ, retL, resV, RetV, RetOk, SubL, intD_B, lotD_B, snocI, ty_3, ty_27, ty_4, ty_40, ty_22, ty_31, issD_get, hd, hp]; try simp (disch := omega) only [av_w, av_t1, av_tp, Int.toNat_natCast]))
      exact Sub.of_eq (congrArg aI (idxP_hit hlt (by rw [hPk]; exact hp) h0).symm)
  · obtain rfl : k = l.length := by omega
    have hd := ged (Nat.le_refl l.length)
    repeat' (first
      | (with_reducible refine aw_seq ?_)
      | ((with_reducible refine twoG_intro ?_ ?_) <;> intro hTw <;> first | (exact Bool.noConfusion hTw) | ((try simp only [hTw, Bool.not_true, Bool.not_false, Bool.true_and, Bool.false_and, Bool.and_true, Bool.and_false, Bool.true_or, Bool.false_or, Bool.or_true, Bool.or_false]); (first | (guard_hyp hTw : true = true; clear hTw) | (guard_hyp hTw : false = false; clear hTw) | (revert hTw; intro _))))
      | ((with_reducible refine two_intro ?_ ?_) <;> intro hTw <;> first | (exact Bool.noConfusion hTw) | ((first | (guard_hyp hTw : true = true; clear hTw) | (guard_hyp hTw : false = false; clear hTw) | (revert hTw; intro _))))
      | ((with_reducible refine And.intro ?_ ?_); (focus (first | omega | rfl | decide | grind)))
      | (with_reducible refine aw_block ?_)
      | (with_reducible refine aw_scope ?_)
      | ((first
          | ((with_reducible refine aw_regionA T_ok ?_ ?_); (focus kernel_rfl))
          | ((with_reducible refine aw_drawnA T_ok ?_ ?_ ?_ ?_); (focus kernel_rfl); (focus kernel_rfl); (focus (decide +kernel)))
          | ((with_reducible refine aw_drawnF T_ok ?_ ?_ ?_ ?_); (focus kernel_rfl); (focus kernel_rfl); (focus (decide +kernel)))
          | (with_reducible refine aw_label ?_)
          | ((with_reducible refine aw_rfM ?_ ?_); (focus kernel_rfl))
          | (with_reducible refine aw_skip ?_)
          | (with_reducible refine aw_exit ?_)
          | ((with_reducible refine aw_condM ?_ ?_); (focus kernel_rfl))
          | (with_reducible refine aw_ret ?_)
        ); simp only [↓avP, avQ, if_true, if_false, forall_const, beq_self_eq_true, eq_self, ne_eq, implies_true, reduceIte, Nat.reduceEqDiff, Nat.reduceAdd, Nat.reduceSub, Int.reduceToNat, Nat.reduceLeDiff, Nat.reduceLT, reduceCtorEq, Int.reduceEq, retQ, retL, resV, RetV, RetOk, SubL, intD_B, lotD_B, snocI, ty_3, ty_27, ty_4, ty_40, ty_22, ty_31, issD_get, hd]; try simp (disch := omega) only [av_w, av_t1, av_tp, Int.toNat_natCast]))
    exact Sub.of_eq (congrArg aI (idxP_miss h0).symm)
theorem contains_spec (l : List Int) (v : Int) (hl : l.length ≤ 140737488351232) : Spec Try.prog 36 [aIs l, aI v] (.r1 (aB (decide (v ∈ l)))) := by
  refine spec_of T_ok Try.func36 (by dsimp only [Try.f36]) rfl rfl (by simp) fun w F => ?_
  repeat' (first
    | (with_reducible refine aw_seq ?_)
    | ((with_reducible refine twoG_intro ?_ ?_) <;> intro hTw <;> first | (exact Bool.noConfusion hTw) | ((try simp only [hTw, Bool.not_true, Bool.not_false, Bool.true_and, Bool.false_and, Bool.and_true, Bool.and_false, Bool.true_or, Bool.false_or, Bool.or_true, Bool.or_false]); (first | (guard_hyp hTw : true = true; clear hTw) | (guard_hyp hTw : false = false; clear hTw) | (revert hTw; intro _))))
    | ((with_reducible refine two_intro ?_ ?_) <;> intro hTw <;> first | (exact Bool.noConfusion hTw) | ((first | (guard_hyp hTw : true = true; clear hTw) | (guard_hyp hTw : false = false; clear hTw) | (revert hTw; intro _))))
    | ((with_reducible refine And.intro ?_ ?_); (focus (first | omega | rfl | decide | grind)))
    | (with_reducible refine aw_block ?_)
    | (with_reducible refine aw_scope ?_)
    | ((first
        | ((with_reducible refine aw_regionA T_ok ?_ ?_); (focus kernel_rfl))
        | ((with_reducible refine aw_drawnA T_ok ?_ ?_ ?_ ?_); (focus kernel_rfl); (focus kernel_rfl); (focus (decide +kernel)))
        | ((with_reducible refine aw_drawnF T_ok ?_ ?_ ?_ ?_); (focus kernel_rfl); (focus kernel_rfl); (focus (decide +kernel)))
        | ((with_reducible refine callK_intro (index_spec l v hl) (by with_unfolding_all rfl) ?_ ?_); (focus kernel_rfl))
        | ((with_reducible refine callI_spec (index_spec l v hl) (by with_unfolding_all rfl) ?_ ?_ ?_); (focus kernel_rfl); (focus kernel_rfl))
        | (with_reducible refine aw_label ?_)
        | ((with_reducible refine aw_rfM ?_ ?_); (focus kernel_rfl))
        | (with_reducible refine aw_skip ?_)
        | (with_reducible refine aw_exit ?_)
        | ((with_reducible refine aw_condM ?_ ?_); (focus kernel_rfl))
        | (with_reducible refine aw_ret ?_)
      ); simp only [↓avP, avQ, if_true, if_false, forall_const, beq_self_eq_true, eq_self, ne_eq, implies_true, reduceIte, Nat.reduceEqDiff, Nat.reduceAdd, Nat.reduceSub, Int.reduceToNat, Nat.reduceLeDiff, Nat.reduceLT, reduceCtorEq, Int.reduceEq, retQ, retL, resV, RetV, RetOk, SubL, intD_B, lotD_B, snocI, ty_3, ty_27, ty_4, ty_40, ty_22, ty_31, issD_get]; try simp (disch := omega) only [av_w, av_t1, av_tp, Int.toNat_natCast]))
  refine Sub.of_eq (congrArg aB ?_)
  rw [idxP_any, any_getD l 0 (fun x => v == x), Bool.eq_iff_iff]
  simp
end Go.Proofs.Ytncihbmehbiekaa


namespace Go.Proofs.Ytncihbmehbiekaa
set_option linter.unusedVariables false
set_option linter.unusedSimpArgs false
open Go.RowKit
def lkC : List (Nat × Nat) → Nat → Option Nat
  | [], _ => none
  | (i, j) :: l, k => if k = i then some j else lkC l k
theorem lkC_mem : ∀ {cs : List (Nat × Nat)} {i j : Nat}, lkC cs i = some j → (i, j) ∈ cs
  | [], _, _, h => by cases h
  | (a, b) :: cs, i, j, h => by
    simp only [lkC] at h
    split at h
    · rename_i e; cases h; subst e; simp
    · exact List.mem_cons_of_mem _ (lkC_mem h)
theorem lkC_of_mem : ∀ {cs : List (Nat × Nat)} {i j : Nat}, (cs.map (·.1)).Nodup → (i, j) ∈ cs → lkC cs i = some j
  | [], _, _, _, h => by cases h
  | (a, b) :: cs, i, j, hn, h => by
    simp only [List.map_cons, List.nodup_cons] at hn
    simp only [lkC]
    rcases List.mem_cons.1 h with e | h
    · cases e; rw [if_pos rfl]
    · rw [if_neg (fun e => hn.1 (by rw [← e]; exact List.mem_map.2 ⟨(i, j), h, rfl⟩)), lkC_of_mem hn.2 h]
section
variable {P : Program} {B : Base} {T : Tab} {ops : Array Oper}
/-- one operation of the head, that may take a row made in the region: whatever else has run already -/
def HG (P : Program) (B : Base) (ops : Array Oper) (o : Oper) (tmi : Nat → V) (st0 : Nat → Option Blk) (rq : Option (Nat × Blk)) (nm : Nat) (v : V) (x : Option Blk) : Prop :=
  ∀ (tm : Nat → V) (σ : Nat → Option Blk) (fr : Nat → Prop) (E : Env) (a : Act), GamS P B σ fr E → GamT B tm E a → fr nm → (∀ n b, st0 n = some b → σ n = some b) → (∀ p, rq = some p → σ p.1 = some p.2) → (∀ t ∈ o.looksAt ops, tm t = tmi t) →
    (Region.wanted o (yielded ops a.tmps) = true → Upon P (fun u w' => ∃ E', E'.w = w' ∧ GamS P B (fun n => if n = nm then x else if rq.map (·.1) = some n then none else σ n) (fun n => fr n ∧ (x.isSome = true → n ≠ nm)) E' ∧ Ext E E' ∧ E'.dp = E.dp ∧ RV E' v u) ((execOp a.eval o).run P E.w)) ∧
    (Region.wanted o (yielded ops a.tmps) = false → x = none ∧ rq = none ∧ RV E v undef)
theorem HG.of {o : Oper} {tmi : Nat → V} {st0 : Nat → Option Blk} {nm : Nat} {v : V} {x : Option Blk} (h : HF P B ops o tmi st0 nm v x) : HG P B ops o tmi st0 none nm v x := by
  intro tm σ fr E a hS hT hfr hst _ hag
  obtain ⟨h1, h2⟩ := h tm σ fr E a hS hT hfr hst hag
  exact ⟨fun hw => (h1 hw).mono fun u w' ⟨E', e, hS', hr⟩ => ⟨E', e, hS'.congr (fun n => by simp) (fun n hn => hn), hr⟩, fun hw => ⟨(h2 hw).1, rfl, (h2 hw).2⟩⟩
/-- what an append takes: nothing, or a row made in the region -/
def apH (nb : List (Nat × Blk)) (el : Nat) (i : TyI) (K : List D → List (List D) → Option (Nat × Blk) → Prop) : V → Prop
  | .d (.c (.slice none 0 0)) => K (zD i.z) [] none
  | .ow n sz d0 es => match lkB nb n with
    | some (.tok e sz' len) => e = el ∧ sz = i.sz ∧ sz' = i.sz ∧ len = es.length ∧ K d0 es (some (n, .tok e sz' len))
    | _ => False
  | _ => False
theorem apH_ok {nb : List (Nat × Blk)} {el : Nat} {i : TyI} {K : List D → List (List D) → Option (Nat × Blk) → Prop} {x : V} (h : apH nb el i K x) : ∃ d0 es rq, K d0 es rq ∧ (∀ p, rq = some p → lkB nb p.1 = some p.2) ∧ ∀ {B : Base} {σ : Nat → Option Blk} {fr : Nat → Prop} {E : Env} {v0 : Value}, GamS P B σ fr E → (∀ p, rq = some p → σ p.1 = some p.2) → RV E x v0 →
    ∃ us0, E.w.ownsRow 0 el i.sz v0 es.length us0 ∧ RDL E.F E.w es.flatten us0 ∧ (∀ u ∈ us0, u.oneCell' = true) ∧ (∀ x ∈ es, x.length = i.sz) ∧ (∀ b, hb v0 = some b → okB B E b (fun o => o < es.length * i.sz)) ∧ ∀ k y, (if rq.map (·.1) = some k then none else σ k) = some y → σ k = some y ∧ ∀ v b, E.η k = some v → hb v = some b → hb v0 ≠ some b := by
  unfold apH at h
  split at h <;> try exact h.elim
  · refine ⟨_, _, _, h, (fun p hp => by cases hp), fun hg _ hv => ?_⟩
    simp only [RV, RD] at hv
    subst hv
    exact ⟨[], World.ownsRow_nil _ _ _ _, by simp [RDL], by simp, by simp, fun b hb' => by simp [hb] at hb', fun k y hy => ⟨by simpa using hy, fun v b _ _ => by simp [hb]⟩⟩
  · rename_i n sz d0 es
    split at h <;> try exact h.elim
    rename_i e sz' len hst
    obtain ⟨rfl, rfl, rfl, rfl, h⟩ := h
    refine ⟨_, _, _, h, (fun p hp => by cases hp; exact hst), fun {B σ fr E v0} hg hrq hv => ?_⟩
    have hst' := hrq _ rfl
    simp only at hst'
    simp only [RV] at hv
    obtain ⟨v1, us, h1, h2, h3⟩ := hg.st n _ hst'
    rw [hv.1] at h1
    cases h1
    obtain ⟨g1, g2, g3, _⟩ := own_cells hv.2 h2
    refine ⟨us, h2, g1, g2, g3, h3, fun k y hy => ?_⟩
    by_cases hk : k = n
    · rw [if_pos (by simp [hk])] at hy; cases hy
    · rw [if_neg (by simp; exact fun e => hk e.symm)] at hy
      exact ⟨hy, fun v b hvk hbk hb0 => hg.dist k n y _ b v v0 hk hy hst' hvk hv.1 hbk hb0⟩
/-- append(x, y...) in the head -/
def apKH (T : Tab) (nb : List (Nat × Blk)) (nm : Nat) (K : V → Option Blk → Option (Nat × Blk) → Prop) : List TypeId → List V → Prop
  | [t, t'], [x, y] => t = t' ∧ match ty T t with
    | some ⟨.slice el, _, _, _⟩ => match ty T el with
      | some i => (0 < i.sz ∧ i.z.cells.size = i.sz) ∧ apH nb el i (fun d0 es rq => apS i.sz (fun fs => (es.length + fs.length) * i.by_ ≤ 140737488355328 ∧ es.length + fs.length ≤ 140737488351232 ∧ K (.ow nm i.sz d0 (es ++ fs)) (some (.tok el i.sz (es.length + fs.length))) rq) y) x
      | none => False
    | _ => False
  | _, _ => False
theorem apKH_ok {o : Oper} {tmi : Nat → V} {st0 : Nat → Option Blk} {nb : List (Nat × Blk)} {nm : Nat} (hT : TabOk P T) {c : Call} (ho : o.op = .call c) (hgd : o.guard = none) (hc : c.callee = .builtin .append) (hco : (c.args.toList.all (constOk B.N)) = true) {K : V → Option Blk → Option (Nat × Blk) → Prop} (h : apKH T nb nm K c.argTypes.toList (c.args.toList.map (ev tmi))) :
    ∃ v x rq, K v x rq ∧ (∀ p, rq = some p → lkB nb p.1 = some p.2) ∧ HG P B ops o tmi st0 rq nm v x := by
  generalize hts : c.argTypes.toList = ts at h
  generalize has : c.args.toList.map (ev tmi) = vs at h
  unfold apKH at h
  split at h <;> try exact h.elim
  rename_i t t' x y
  obtain ⟨rfl, h⟩ := h
  have hts' : c.argTypes = #[t, t] := by rw [← Array.toArray_toList (xs := c.argTypes), hts]
  obtain ⟨p, q, h1, h2, h3⟩ := args_two has
  have has' : c.args = #[p, q] := by rw [← Array.toArray_toList (xs := c.args), h1]
  split at h <;> try exact h.elim
  rename_i el sz z bt hi1
  split at h <;> try exact h.elim
  rename_i i hi2
  obtain ⟨⟨hpos, hzs⟩, h⟩ := h
  obtain ⟨d0, es, rq, h, hrqn, hD⟩ := apH_ok (P := P) h
  obtain ⟨fs, ⟨hby, hmax, hK⟩, hS⟩ := apS_ok h
  refine ⟨_, _, rq, hK, hrqn, fun tm σ fr E a hS0 hT0 hfr hst hrq hag => ?_⟩
  have hw : Region.wanted o (yielded ops a.tmps) = true := by simp [Region.wanted, hgd]
  refine ⟨fun _ => ?_, fun h' => by rw [hw] at h'; cases h'⟩
  rw [h1] at hco
  simp only [List.all_cons, List.all_nil, Bool.and_true, Bool.and_eq_true] at hco
  have hpo : p ∈ o.op.operands := by rw [ho]; simp [Op.operands, Call.operands, has']
  have hqo : q ∈ o.op.operands := by rw [ho]; simp [Op.operands, Call.operands, has']
  have rx := ev_ok hT0 p hco.1
  have ry := ev_ok hT0 q hco.2
  rw [ev_congr hag hpo, h2] at rx
  rw [ev_congr hag hqo, h3] at ry
  obtain ⟨us0, k1, k2, k3, k4, k5, k6⟩ := hD hS0 hrq rx
  have ht := (ty_ok hT hi1).2
  have hinf := (ty_ok hT hi2).1
  simp only [kdOk] at ht
  obtain ⟨j, hj, hz, hsz, hbyt⟩ : ∃ j, P.info? el = some j ∧ j.zero = some i.z ∧ j.size = i.sz ∧ j.bytes = i.by_ := by
    cases hj : P.info? el with
    | none => rw [hj] at hinf; cases hinf
    | some j => rw [hj] at hinf; simp at hinf; exact ⟨j, rfl, hinf.2.1, hinf.1, hinf.2.2⟩
  obtain ⟨a0, c0, hv0, _⟩ := own_form k1
  have hgrow : ∃ v' w' news, (Builtin.append_ #[t, t] o.type #[a.eval p, a.eval q]).run P E.w = .ok v' w' ∧ Grew 0 el i.sz E.w (a.eval p) v' (es.length + fs.length) (us0 ++ news) w' ∧ (∀ g, (a.eval p).ownBlock = some g → v'.ownBlock = some g ∨ w'.heap[g]? = E.w.heap[g]?) ∧ RDL E.F E.w fs.flatten news ∧ (∀ u ∈ news, u.oneCell' = true) ∧ ∀ x ∈ fs, x.length = i.sz := by
    rcases hS ry with ⟨c1, hu, rfl⟩ | ⟨ad, c1, news, hu, g1, g2, g3, g4, g5⟩
    · refine ⟨a.eval p, E.w, [], by rw [hu]; exact run_append_none E.w 0 t _ el j ht hj _ _ _ k1 c1, by simpa using Grew.refl k1, fun _ _ => .inr rfl, by simp [RDL], by simp, by simp⟩
    · obtain ⟨v', w', r1, r2, r3⟩ := run_append_own3 (P := P) E.w 0 t o.type el j i.z i.sz i.by_ ht hj hz hsz hbyt hzs hpos (a.eval p) es.length us0 k1 ad fs.length c1 news g2 g5 g3 (by unfold maxLen; omega) hby (Nat.zero_le _)
      exact ⟨v', w', news, by rw [hu]; exact r1, r2, r3, g1, g3, g4⟩
  obtain ⟨v', w', news, r1, r2, r3, r4, r5, r6⟩ := hgrow
  have hσn : (if rq.map (·.1) = some nm then none else σ nm) = none := by
    rw [hS0.none_of_fresh hfr]; split <;> rfl
  have hdp : ∀ b, hb (a.eval p) = some b → E.w.heap[b]? ≠ some (.deferred (some [])) := fun b hb' => by
    rcases k1.2 with ⟨e1, _⟩ | ⟨g, cap, cur, e1, _, e3, _⟩
    · rw [e1] at hb'; cases hb'
    · rw [e1] at hb'; cases hb'; rw [e3]; simp
  obtain ⟨E', hw', hG, hE, hR, hD'⟩ := GamS.grow (d0 := d0) (σ1 := fun k => if rq.map (·.1) = some k then none else σ k) (σ' := fun n => if n = nm then some (.tok el i.sz (es.length + fs.length)) else if rq.map (·.1) = some n then none else σ n) (fr' := fun n => fr n ∧ ((some (Blk.tok el i.sz (es.length + fs.length))).isSome = true → n ≠ nm)) (nx := nm) (m := fs.length) hS0 hdp hfr (fun k hk => ⟨hk.1, hk.2 rfl⟩) (fun k => rfl) k6 hσn k5 r2 r3 (ownBlock_hb hv0) rfl rfl k1.1
    (fun g hg' j u hj => by
      have := k1.cells (g := g) ((ownBlock_hb hv0).trans hg') j u hj
      rwa [Addr.add_any, Nat.zero_add] at this) k2 r4 k3 r5 k4 r6 hmax
  have hrun : (execOp a.eval o).run P E.w = .ok (.value v') w' := by simp [execOp, ho, resolve, hc, has', hts', invoke, builtin, r1]
  rw [hrun]
  simp only [Upon]
  exact ⟨E', hw', hG, hE, hD', hR⟩
def delO : Option (Nat × Blk) → List (Nat × Blk) → List (Nat × Blk)
  | none, l => l
  | some p, l => delB p.1 l
/-- what a row's taking is, by the pairs given -/
def rqOk (cs : List (Nat × Nat)) (nx i : Nat) : Option (Nat × Blk) → Prop
  | none => lkC cs i = none
  | some p => lkC cs i = some (p.1 - nx) ∧ nx ≤ p.1
/-- one operation of the head, evaluated -/
def hopC (P : Program) (T : Tab) (ops : Array Oper) (o : Oper) (tm : List (Nat × V)) (st0 nb : List (Nat × Blk)) (nm : Nat) (K : V → Option Blk → Option (Nat × Blk) → Prop) : Prop :=
  match o.guard with
  | none => match o.op with
    | .call ⟨.builtin .append, asA, ts⟩ => apKH T nb nm K ts.toList (asA.toList.map (ev (lkT tm)))
    | op => hop P T True op (ev (lkT tm)) (lkB st0) nm (fun v x => K v x none)
  | some _ => hopH P T ops o tm st0 nm (fun v x => K v x none)
theorem hopC_ok (hT : TabOk P T) {o : Oper} {tm : List (Nat × V)} {st0 nb : List (Nat × Blk)} {nm : Nat} {K : V → Option Blk → Option (Nat × Blk) → Prop} (hops : ∀ o ∈ ops.toList, opOk B.N o = true) (hc : (o.op.operands.toList.all (constOk B.N)) = true) (h : hopC P T ops o tm st0 nb nm K) :
    ∃ v x rq, K v x rq ∧ (∀ p, rq = some p → lkB nb p.1 = some p.2) ∧ HG P B ops o (lkT tm) (lkB st0) rq nm v x := by
  unfold hopC at h
  split at h
  · rename_i hg
    split at h
    · rename_i asA ts hop
      refine apKH_ok hT hop hg rfl ?_ h
      refine List.all_eq_true.2 fun z hz => List.all_eq_true.1 hc z ?_
      rw [hop]
      simp only [Op.operands, Call.operands]
      simp [Array.mem_toList_iff.1 hz]
    · obtain ⟨v, x, hK, hd⟩ := hop_ok hT h
      exact ⟨v, x, none, hK, (fun p hp => by cases hp), .of (hf_next hc hg (hd trivial))⟩
  · obtain ⟨v, x, hK, hf⟩ := hopH_ok hT hops hc h
    exact ⟨v, x, none, hK, (fun p hp => by cases hp), .of hf⟩
/-- the head -/
def hwpC (P : Program) (T : Tab) (ops : Array Oper) (st0 : List (Nat × Blk)) (nx : Nat) (cs : List (Nat × Nat)) : List (Nat × Oper) → List (Nat × V) → List (Nat × Blk) → (List (Nat × V) → List (Nat × Blk) → Prop) → Prop
  | [], tm, nb, K => K tm nb
  | (i, o) :: l, tm, nb, K => hopC P T ops o tm st0 nb (nx + i) (fun v x rq => rqOk cs nx i rq ∧ hwpC P T ops st0 nx cs l (put o.dst v tm) (addN (nx + i) x (delO rq nb)) K)
/-- its run: nb: the rows that are there, mb: all that were made -/
def HRunC (P : Program) (B : Base) (ops : Array Oper) (st0 : List (Nat × Blk)) (nx : Nat) (cs : List (Nat × Nat)) (tmF : List (Nat × V)) (nbF mbF : List (Nat × Blk)) : List (Nat × Oper) → List (Nat × V) → List (Nat × Blk) → List (Nat × Blk) → Prop
  | [], tm, nb, mb => tmF = tm ∧ nbF = nb ∧ mbF = mb
  | (i, o) :: l, tm, nb, mb => ∃ v x rq, (∀ p, rq = some p → lkB nb p.1 = some p.2) ∧ HG P B ops o (lkT tm) (lkB st0) rq (nx + i) v x ∧ rqOk cs nx i rq ∧ HRunC P B ops st0 nx cs tmF nbF mbF l (put o.dst v tm) (addN (nx + i) x (delO rq nb)) (addN (nx + i) x mb)
theorem hwpC_ok (hT : TabOk P T) {st0 : List (Nat × Blk)} {nx : Nat} {cs : List (Nat × Nat)} {K : List (Nat × V) → List (Nat × Blk) → Prop} (hops : ∀ o ∈ ops.toList, opOk B.N o = true) : ∀ (l : List (Nat × Oper)) (tm : List (Nat × V)) (nb mb : List (Nat × Blk)), (l.all fun p => p.2.op.operands.toList.all (constOk B.N)) = true → hwpC P T ops st0 nx cs l tm nb K → ∃ tmF nbF mbF, K tmF nbF ∧ HRunC P B ops st0 nx cs tmF nbF mbF l tm nb mb
  | [], tm, nb, mb, _, h => ⟨tm, nb, mb, h, rfl, rfl, rfl⟩
  | (i, o) :: l, tm, nb, mb, hc, h => by
    simp only [List.all_cons, Bool.and_eq_true] at hc
    obtain ⟨v, x, rq, ⟨hq, h1⟩, hn, h2⟩ := hopC_ok (B := B) hT hops hc.1 h
    obtain ⟨tmF, nbF, mbF, h3, h4⟩ := hwpC_ok hT hops l _ _ (addN (nx + i) x mb) hc.2 h1
    exact ⟨tmF, nbF, mbF, h3, v, x, rq, hn, h2, hq, h4⟩
theorem lkB_delO {rq : Option (Nat × Blk)} {l : List (Nat × Blk)} (n : Nat) : lkB (delO rq l) n = if rq.map (·.1) = some n then none else lkB l n := by
  cases rq with
  | none => simp [delO]
  | some p =>
    simp only [delO, lkB_delB, Option.map_some, Option.some.injEq]
    by_cases h : n = p.1
    · rw [if_pos h, if_pos h.symm]
    · rw [if_neg h, if_neg (fun e => h e.symm)]
theorem rqOk_map {cs : List (Nat × Nat)} {nx i : Nat} {rq : Option (Nat × Blk)} (h : rqOk cs nx i rq) (n : Nat) : rq.map (·.1) = some n ↔ ∃ j, lkC cs i = some j ∧ n = nx + j := by
  cases rq with
  | none =>
    simp only [rqOk] at h
    simp [h]
  | some p =>
    simp only [rqOk] at h
    simp only [Option.map_some, Option.some.injEq]
    constructor
    · intro e; exact ⟨_, h.1, by omega⟩
    · rintro ⟨j, h1, h2⟩
      rw [h.1] at h1
      injection h1 with h1
      omega
theorem hrunC_facts {st0 : List (Nat × Blk)} {nx : Nat} {cs : List (Nat × Nat)} {tmF : List (Nat × V)} {nbF mbF : List (Nat × Blk)} (hcs : ∀ c ∈ cs, c.2 < c.1) : ∀ (l : List (Nat × Oper)) (tm : List (Nat × V)) (nb mb : List (Nat × Blk)), incr l = true → (∀ n q, lkB nb n = some q → lkB mb n = some q) → HRunC P B ops st0 nx cs tmF nbF mbF l tm nb mb →
    (∀ t, (∀ p ∈ l, p.2.dst ≠ some t) → lkT tmF t = lkT tm t) ∧ (∀ n, (∀ p ∈ l, n ≠ nx + p.1) → lkB mbF n = lkB mb n) ∧
    (∀ n, (∃ p ∈ l, ∃ j, lkC cs p.1 = some j ∧ n = nx + j) → (∀ p ∈ l, ∀ q ∈ l, ∀ j, lkC cs p.1 = some j → nx + j = nx + q.1 → q.1 < p.1) → lkB nbF n = none) ∧
    (∀ n, (∀ p ∈ l, ∀ j, lkC cs p.1 = some j → n ≠ nx + j) → lkB mb n = lkB nb n → lkB nbF n = lkB mbF n) ∧
    ∀ p ∈ l, ∃ tmi v x rq, HG P B ops p.2 tmi (lkB st0) rq (nx + p.1) v x ∧ (∀ d, p.2.dst = some d → lkT tmF d = v) ∧ (lkB mb (nx + p.1) = none → lkB mbF (nx + p.1) = x) ∧
      (∀ t, ∀ q ∈ l, q.1 < p.1 → q.2.dst = some t → tmi t = lkT tmF t) ∧ (∀ t, (∀ q ∈ l, q.1 < p.1 → q.2.dst ≠ some t) → tmi t = lkT tm t) ∧ rqOk cs nx p.1 rq ∧ (∀ z, rq = some z → lkB mbF z.1 = some z.2)
  | [], tm, nb, mb, _, _, h => by
    obtain ⟨rfl, rfl, rfl⟩ := h
    exact ⟨fun _ _ => rfl, fun _ _ => rfl, (fun n h _ => by obtain ⟨p, hp, _⟩ := h; cases hp), (fun n _ h => h.symm), (fun p hp => by cases hp)⟩
  | (i, o) :: l, tm, nb, mb, hi, hsub, h => by
    simp only [incr, Bool.and_eq_true] at hi
    obtain ⟨v, x, rq, hn, h1, hrq, h2⟩ := h
    have hlt : ∀ p ∈ l, i < p.1 := fun p hp => by have := List.all_eq_true.1 hi.1 p hp; simp at this; exact this.1
    have hne : ∀ p ∈ l, ∀ d, o.dst = some d → p.2.dst ≠ some d := fun p hp d hd => by
      have := List.all_eq_true.1 hi.1 p hp
      rw [hd] at this
      simp at this
      exact this.2
    have hsub' : ∀ n q, lkB (addN (nx + i) x (delO rq nb)) n = some q → lkB (addN (nx + i) x mb) n = some q := fun n q hq => by
      rw [lkB_addN] at hq ⊢
      split at hq
      · rename_i hc; rw [if_pos hc]; exact hq
      · rename_i hc
        rw [if_neg hc]
        rw [lkB_delO] at hq
        split at hq
        · cases hq
        · exact hsub n q hq
    obtain ⟨f1, f2, f2a, f2b, f3⟩ := hrunC_facts hcs l _ _ _ hi.2 hsub' h2
    have hkeep : ∀ n, (∀ p ∈ l, n ≠ nx + p.1) → lkB mbF n = lkB (addN (nx + i) x mb) n := f2
    refine ⟨fun t ht => ?_, fun n hn => ?_, fun n hex hord => ?_, fun n hno hmn => ?_, fun p hp => ?_⟩
    · rw [f1 t (fun p hp => ht p (by simp [hp])), lkT_put, if_neg (ht (i, o) (by simp))]
    · rw [f2 n (fun p hp => hn p (by simp [hp])), lkB_addN, if_neg (fun e => hn (i, o) (by simp) e.1)]
    · obtain ⟨p, hp, j, hj, rfl⟩ := hex
      by_cases hin : ∃ p ∈ l, ∃ j', lkC cs p.1 = some j' ∧ nx + j = nx + j'
      · exact f2a _ hin (fun p hp q hq => hord p (by simp [hp]) q (by simp [hq]))
      · have hpi : p = (i, o) := by
          rcases List.mem_cons.1 hp with e | hp
          · exact e
          · exact (hin ⟨p, hp, j, hj, rfl⟩).elim
        subst hpi
        have hji := hcs _ (lkC_mem hj)
        simp only at hji hj
        -- the row is gone and is not made again
        have hgo : ∀ (l : List (Nat × Oper)) (tm : List (Nat × V)) (nb mb : List (Nat × Blk)), HRunC P B ops st0 nx cs tmF nbF mbF l tm nb mb → (∀ p ∈ l, nx + j ≠ nx + p.1) → lkB nb (nx + j) = none → lkB nbF (nx + j) = none := by
          intro l
          induction l with
          | nil => rintro tm nb mb ⟨_, rfl, _⟩ _ h; exact h
          | cons q l ih =>
            rintro tm nb mb ⟨v, x, rq, _, _, _, h⟩ hne h0
            refine ih _ _ _ h (fun p hp => hne p (by simp [hp])) ?_
            rw [lkB_addN, if_neg (fun e => hne q (by simp) e.1), lkB_delO, h0]
            split <;> rfl
        refine hgo l _ _ _ h2 (fun q hq e => by have := hlt q hq; omega) ?_
        rw [lkB_addN, if_neg (fun e => by omega), lkB_delO, if_pos ((rqOk_map hrq _).2 ⟨j, hj, rfl⟩)]
    · refine f2b n (fun p hp => hno p (by simp [hp])) ?_
      have hni : ¬ rq.map (·.1) = some n := fun e => by
        obtain ⟨j, h1, h2⟩ := (rqOk_map hrq n).1 e
        exact hno (i, o) (by simp) j h1 h2
      rw [lkB_addN, lkB_addN, lkB_delO, if_neg hni, hmn]
    · rcases List.mem_cons.1 hp with rfl | hp'
      · refine ⟨lkT tm, v, x, rq, h1, fun d hd => ?_, fun hnb => ?_, fun t q hq hlt' => ?_, fun t _ => rfl, hrq, fun z hz => ?_⟩
        · rw [f1 d (fun p hp => hne p hp d hd), lkT_put, if_pos hd]
        · rw [f2 (nx + i) (fun p hp e => by have := hlt p hp; omega), lkB_addN]
          cases x with
          | none => simp [hnb]
          | some b => simp
        · rcases List.mem_cons.1 hq with rfl | hq
          · exact (Nat.lt_irrefl _ hlt').elim
          · have := hlt q hq; omega
        · obtain ⟨j, hj1, hj2⟩ := (rqOk_map hrq z.1).1 (by rw [hz]; rfl)
          have hji := hcs _ (lkC_mem hj1)
          simp only at hji
          rw [f2 z.1 (fun p hp e => by have := hlt p hp; omega), lkB_addN, if_neg (fun e => by omega)]
          exact hsub _ _ (hn z hz)
      · obtain ⟨tmi, v', x', rq', g1, g2, g3, g4, g5, g6, g7⟩ := f3 p hp'
        have hip := hlt p hp'
        refine ⟨tmi, v', x', rq', g1, g2, fun hnb => g3 ?_, fun t q hq hql hqt => ?_, fun t ht => ?_, g6, g7⟩
        · rw [lkB_addN, if_neg (by rintro ⟨e, _⟩; omega)]; exact hnb
        · rcases List.mem_cons.1 hq with rfl | hq
          · have hqt' : o.dst = some t := hqt
            rw [g5 t (fun r hr _ => hne r hr t hqt'), f1 t (fun r hr => hne r hr t hqt')]
          · exact g4 t q hq hql hqt
        · rw [g5 t (fun q hq hql => ht q (by simp [hq]) hql), lkT_put, if_neg (ht (i, o) (by simp) hip)]
/-- the rows that heads take: each waits for what makes it, and none is taken twice -/
def takeOk (l : List Oper) (hd : List Nat) (cs : List (Nat × Nat)) : Bool :=
  cs.all (fun c => decide (c.2 < c.1) && hd.contains c.1 && reachB .any l.toArray l.length c.1 c.2) && decide (cs.map (·.1)).Nodup && decide (cs.map (·.2)).Nodup
end
end Go.Proofs.Ytncihbmehbiekaa

