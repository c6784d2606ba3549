import Derived.Test.YtfndjciojljkfaaFB9
import Derived.Test.YtfndjciojljkfaaFB13
namespace Go.Proofs.Ytfndjciojljkfaa
set_option linter.unusedSimpArgs false
set_option linter.unusedVariables false
open Go.RowKit
set_option maxRecDepth 100000
set_option maxHeartbeats 4000000
theorem subM_mI (ρ : Ren) {m m' : List (Int × Int)} (h : m = m') : subM ρ (mI m) (mI m') := subM_map (f := fun p : Int × Int => ([p.1], V.d (.c (.int .i64 p.2)))) (fun _ => rfl) h
theorem subVs_row (ρ : Ren) (es : List (List D)) : subVs ρ (es.map dV).flatten (es.map dV).flatten := by
  rw [flat_dV]; exact subVs_d _ _
theorem ofInv_entry {S : Nat} {g : Nat → Int} {M : List (Int × Int)} {ms : Array MapEntry} {clock : Nat} (h : OfInv S g M) (hm : MsOk ms clock M) {e : MapEntry} (he : e ∈ ms.toList) :
    ∃ (t : Int) (s : Nat), e.key = .int .i64 t ∧ e.val = .int .i64 s ∧ s < S ∧ g s = t := by
  have : (e.key, e.val) ∈ ms.toList.map (fun e => (e.key, e.val)) := List.mem_map_of_mem he
  rw [hm.kv] at this
  obtain ⟨⟨t, v⟩, hp, e1⟩ := List.mem_map.1 this
  simp only [Prod.mk.injEq] at e1
  obtain ⟨s, h1, h2, h3⟩ := (h.mem t v).1 hp
  exact ⟨t, s, e1.1.symm, by rw [← e1.2, h2], h1, h3⟩
theorem ofInv_some {S : Nat} {g : Nat → Int} {M : List (Int × Int)} {ms : Array MapEntry} {clock : Nat} (h : OfInv S g M) (hm : MsOk ms clock M) {s : Nat} (hs : s < S) :
    ∃ e ∈ ms.toList, e.key = .int .i64 (g s) ∧ e.val = .int .i64 s := by
  have hp := (h.mem (g s) s).2 ⟨s, hs, rfl, rfl⟩
  have : (Value.int .i64 (g s), Value.int .i64 (s : Int)) ∈ ms.toList.map (fun e => (e.key, e.val)) := by
    rw [hm.kv]; exact List.mem_map.2 ⟨_, hp, rfl⟩
  obtain ⟨e, he, e1⟩ := List.mem_map.1 this
  simp only [Prod.mk.injEq] at e1
  exact ⟨e, he, e1.1, e1.2⟩
theorem left_none {ms : Array MapEntry} {seen : Array Nat} (hz : (leftOf ms seen).size = 0) {e : MapEntry} (he : e ∈ ms.toList) : seen.contains e.born = true := by
  have : leftOf ms seen = #[] := Array.eq_empty_of_size_eq_zero hz
  unfold leftOf at this
  rw [Array.filter_eq_empty_iff] at this
  have := this e (by simpa using he)
  simpa using this
theorem born_inj {ms : Array MapEntry} {clock : Nat} (h : BornOk ms clock) {e e' : MapEntry} (he : e ∈ ms.toList) (he' : e' ∈ ms.toList) (hb : e.born = e'.born) : e = e' := by
  have := h.1
  rw [List.nodup_iff_pairwise_ne, List.pairwise_map] at this
  obtain ⟨i, hi, rfl⟩ := List.getElem_of_mem he
  obtain ⟨j, hj, rfl⟩ := List.getElem_of_mem he'
  rw [List.pairwise_iff_getElem] at this
  rcases Nat.lt_trichotomy i j with h1 | h1 | h1
  · exact (this i j hi hj h1 hb).elim
  · subst h1; rfl
  · exact (this j i hj hi h1 hb.symm).elim
theorem row_set (L : List Int) (s : Nat) (t : Int) : ((L.map intD).map dV).set s (V.d (.c (.int .i64 t)) :: List.drop 1 (((L.map intD).map dV).getD s (dV (intD 0)))) = ((L.set s t).map intD).map dV := by
  have h1 : ((L.map intD).map dV).getD s (dV (intD 0)) = dV (intD (L.getD s 0)) := by
    simp only [List.getD_eq_getElem?_getD, List.getElem?_map]
    cases L[s]? <;> rfl
  rw [h1, List.map_set, List.map_set]
  rfl
theorem fmap_spec (f : FlowP) (hf : OkF f) : Spec Try.prog 24 [.agg (flowD f)] (.rt [aIs (mapR f), aI (errM f)]) := by
  refine spec_of T_ok Try.func24 (by dsimp only [Try.f24]) rfl rfl (by simp) fun w F => ?_
  have hC := fcheck_spec f hf
  have hK := fknown_spec f hf.l
  have hfl := hf.l
  by_cases hc : checkF f = 0
  rotate_left
  · have hd : (checkF f != 0) = true := by simpa using hc
    repeat' (first
      | (with_reducible refine aw_seq ?_)
      | ((with_reducible refine twoG_intro ?_ ?_) <;> intro hTw <;> first | (exact Bool.noConfusion hTw) | ((try simp only [hTw, Bool.not_true, Bool.not_false, Bool.true_and, Bool.false_and, Bool.and_true, Bool.and_false, Bool.true_or, Bool.false_or, Bool.or_true, Bool.or_false]); (first | (guard_hyp hTw : true = true; clear hTw) | (guard_hyp hTw : false = false; clear hTw) | (revert hTw; intro _))))
      | ((with_reducible refine two_intro ?_ ?_) <;> intro hTw <;> first | (exact Bool.noConfusion hTw) | ((first | (guard_hyp hTw : true = true; clear hTw) | (guard_hyp hTw : false = false; clear hTw) | (revert hTw; intro _))))
      | ((with_reducible refine And.intro ?_ ?_); (focus (first | exact keyOk_int_ | omega | rfl | decide | grind)))
      | (with_reducible refine aw_block ?_)
      | (with_reducible refine aw_scope ?_)
      | ((first
          | ((with_reducible refine aw_regionA T_ok ?_ ?_); (focus kernel_rfl))
          | ((with_reducible refine aw_drawnA T_ok ?_ ?_ ?_ ?_); (focus kernel_rfl); (focus kernel_rfl); (focus (decide +kernel)))
          | ((with_reducible refine aw_drawnF T_ok ?_ ?_ ?_ ?_); (focus kernel_rfl); (focus kernel_rfl); (focus (decide +kernel)))
          | ((with_reducible refine callK_intro (hC) (by with_unfolding_all rfl) ?_ ?_); (focus kernel_rfl))
          | ((with_reducible refine callI_spec (hC) (by with_unfolding_all rfl) ?_ ?_ ?_); (focus kernel_rfl); (focus kernel_rfl))
          | (with_reducible refine aw_label ?_)
          | ((with_reducible refine aw_rfM ?_ ?_); (focus kernel_rfl))
          | (with_reducible refine aw_skip ?_)
          | (with_reducible refine aw_exit ?_)
          | ((with_reducible refine aw_condM ?_ ?_); (focus kernel_rfl))
          | (with_reducible refine aw_ret ?_)
        ); simp only [↓avP, avQ, if_true, if_false, forall_const, beq_self_eq_true, eq_self, ne_eq, implies_true, reduceIte, Nat.reduceEqDiff, Nat.reduceAdd, Nat.reduceSub, Int.reduceToNat, Nat.reduceLeDiff, Nat.reduceLT, reduceCtorEq, Int.reduceEq, retQ, retL, resV, RetV, RetOk, SubL, intD_B, lotD_B, flowD_B, snocI, snocL, ty_3, ty_27, ty_4, ty_24, ty_43, ty_22, ty_68, lkM_I, upM_I, dlM_I, intV_getD, intV, hd]; try simp (disch := omega) only [av_w, av_t1, av_tp, Int.toNat_natCast]))
    have : errM f = checkF f := by rw [errM, if_pos hc]
    rw [mapR, this, if_neg hc]
    exact ⟨Sub.nil _ _, Sub.refl _⟩
  rw [hc] at hC
  cases hk : knownF f with
  | false =>
    repeat' (first
      | (with_reducible refine aw_seq ?_)
      | ((with_reducible refine twoG_intro ?_ ?_) <;> intro hTw <;> first | (exact Bool.noConfusion hTw) | ((try simp only [hTw, Bool.not_true, Bool.not_false, Bool.true_and, Bool.false_and, Bool.and_true, Bool.and_false, Bool.true_or, Bool.false_or, Bool.or_true, Bool.or_false]); (first | (guard_hyp hTw : true = true; clear hTw) | (guard_hyp hTw : false = false; clear hTw) | (revert hTw; intro _))))
      | ((with_reducible refine two_intro ?_ ?_) <;> intro hTw <;> first | (exact Bool.noConfusion hTw) | ((first | (guard_hyp hTw : true = true; clear hTw) | (guard_hyp hTw : false = false; clear hTw) | (revert hTw; intro _))))
      | ((with_reducible refine And.intro ?_ ?_); (focus (first | exact keyOk_int_ | omega | rfl | decide | grind)))
      | (with_reducible refine aw_block ?_)
      | (with_reducible refine aw_scope ?_)
      | ((first
          | ((with_reducible refine aw_regionA T_ok ?_ ?_); (focus kernel_rfl))
          | ((with_reducible refine aw_drawnA T_ok ?_ ?_ ?_ ?_); (focus kernel_rfl); (focus kernel_rfl); (focus (decide +kernel)))
          | ((with_reducible refine aw_drawnF T_ok ?_ ?_ ?_ ?_); (focus kernel_rfl); (focus kernel_rfl); (focus (decide +kernel)))
          | ((with_reducible refine callK_intro (hC) (by with_unfolding_all rfl) ?_ ?_); (focus kernel_rfl))
          | ((with_reducible refine callI_spec (hC) (by with_unfolding_all rfl) ?_ ?_ ?_); (focus kernel_rfl); (focus kernel_rfl))
          | ((with_reducible refine callK_intro (hK) (by with_unfolding_all rfl) ?_ ?_); (focus kernel_rfl))
          | ((with_reducible refine callI_spec (hK) (by with_unfolding_all rfl) ?_ ?_ ?_); (focus kernel_rfl); (focus kernel_rfl))
          | (with_reducible refine aw_label ?_)
          | ((with_reducible refine aw_rfM ?_ ?_); (focus kernel_rfl))
          | (with_reducible refine aw_skip ?_)
          | (with_reducible refine aw_exit ?_)
          | ((with_reducible refine aw_condM ?_ ?_); (focus kernel_rfl))
          | (with_reducible refine aw_ret ?_)
        ); simp only [↓avP, avQ, if_true, if_false, forall_const, beq_self_eq_true, eq_self, ne_eq, implies_true, reduceIte, Nat.reduceEqDiff, Nat.reduceAdd, Nat.reduceSub, Int.reduceToNat, Nat.reduceLeDiff, Nat.reduceLT, reduceCtorEq, Int.reduceEq, retQ, retL, resV, RetV, RetOk, SubL, intD_B, lotD_B, flowD_B, snocI, snocL, ty_3, ty_27, ty_4, ty_24, ty_43, ty_22, ty_68, lkM_I, upM_I, dlM_I, intV_getD, intV, hk]; try simp (disch := omega) only [av_w, av_t1, av_tp, Int.toNat_natCast]))
    have : errM f = 1 := by rw [errM, if_neg (by simpa using hc), hk]; rfl
    rw [mapR, this, if_neg (by decide)]
    exact ⟨Sub.nil _ _, Sub.refl _⟩
  | true =>
    obtain ⟨z1, z2, z3, z4, z5⟩ := checkF_zero hc
    have hs := checkF_small hc
    obtain ⟨N, hN⟩ : ∃ N : Nat, f.senders = N := ⟨f.senders.toNat, by omega⟩
    have he : errM f = 0 := by rw [errM, if_neg (by simpa using hc), if_pos hk]
    have hR : mapR f = mapAt f N := by rw [mapR, if_pos he, hN]; rfl
    have hNl : N ≤ 64 := by omega
    repeat' (first
      | (with_reducible refine aw_seq ?_)
      | ((with_reducible refine twoG_intro ?_ ?_) <;> intro hTw <;> first | (exact Bool.noConfusion hTw) | ((try simp only [hTw, Bool.not_true, Bool.not_false, Bool.true_and, Bool.false_and, Bool.and_true, Bool.and_false, Bool.true_or, Bool.false_or, Bool.or_true, Bool.or_false]); (first | (guard_hyp hTw : true = true; clear hTw) | (guard_hyp hTw : false = false; clear hTw) | (revert hTw; intro _))))
      | ((with_reducible refine two_intro ?_ ?_) <;> intro hTw <;> first | (exact Bool.noConfusion hTw) | ((first | (guard_hyp hTw : true = true; clear hTw) | (guard_hyp hTw : false = false; clear hTw) | (revert hTw; intro _))))
      | ((with_reducible refine And.intro ?_ ?_); (focus (first | exact keyOk_int_ | omega | rfl | decide | grind)))
      | (with_reducible refine aw_block ?_)
      | (with_reducible refine aw_scope ?_)
      | ((first
          | ((with_reducible refine aw_regionA T_ok ?_ ?_); (focus kernel_rfl))
          | ((with_reducible refine aw_drawnA T_ok ?_ ?_ ?_ ?_); (focus kernel_rfl); (focus kernel_rfl); (focus (decide +kernel)))
          | ((with_reducible refine aw_drawnF T_ok ?_ ?_ ?_ ?_); (focus kernel_rfl); (focus kernel_rfl); (focus (decide +kernel)))
          | ((with_reducible refine callK_intro (hC) (by with_unfolding_all rfl) ?_ ?_); (focus kernel_rfl))
          | ((with_reducible refine callI_spec (hC) (by with_unfolding_all rfl) ?_ ?_ ?_); (focus kernel_rfl); (focus kernel_rfl))
          | ((with_reducible refine callK_intro (hK) (by with_unfolding_all rfl) ?_ ?_); (focus kernel_rfl))
          | ((with_reducible refine callI_spec (hK) (by with_unfolding_all rfl) ?_ ?_ ?_); (focus kernel_rfl); (focus kernel_rfl))
          | (with_reducible refine aw_label ?_)
          | ((with_reducible refine aw_rfM ?_ ?_); (focus kernel_rfl))
          | (with_reducible refine aw_skip ?_)
          | (with_reducible refine aw_exit ?_)
          | ((with_reducible refine aw_condM ?_ ?_); (focus kernel_rfl))
          | (with_reducible refine aw_ret ?_)
        ); simp only [↓avP, avQ, if_true, if_false, forall_const, beq_self_eq_true, eq_self, ne_eq, implies_true, reduceIte, Nat.reduceEqDiff, Nat.reduceAdd, Nat.reduceSub, Int.reduceToNat, Nat.reduceLeDiff, Nat.reduceLT, reduceCtorEq, Int.reduceEq, retQ, retL, resV, RetV, RetOk, SubL, intD_B, lotD_B, flowD_B, snocI, snocL, ty_3, ty_27, ty_4, ty_24, ty_43, ty_22, ty_68, lkM_I, upM_I, dlM_I, intV_getD, intV, hk]; try simp (disch := omega) only [av_w, av_t1, av_tp, Int.toNat_natCast]))
    refine aw_loopI (fun i : Nat => ⟨[(1, .ptr 0 0), (5, .mp 1), (25, vI f.senders), (26, vI i)],
      [(1, .map .i 3 (.int .i64 0) (.d (.c (.int .i64 0))) (mI (mId i))), (0, .cells 24 (dV (flowD f)))], 2⟩)
      (fun i => i ≤ N) (fun i => N - i) 0 (Nat.zero_le _) (wk_of [(0, some 0), (1, some 1)] rfl rfl ?_ ?_) ?_
    · simp only [wkT, wkB, wkB1, subV, subVs, subD, subB, lkN_n, lkN_c, lkT_n, lkT_c, lkB_n, lkB_c, if_true, if_false, reduceIte, Nat.reduceEqDiff, true_and, and_true, and_self, inT, ofA]
      (repeat' (first | exact trivial | rfl | exact rfl | exact subVs_d _ _ | exact subVs_dm _ _ | exact subD_refl _ | refine And.intro ?_ ?_))
    · simp only [wkT, wkB, wkB1, subV, subVs, subD, subB, lkN_n, lkN_c, lkT_n, lkT_c, lkB_n, lkB_c, if_true, if_false, reduceIte, Nat.reduceEqDiff, true_and, and_true, and_self, inT, ofA]
      (repeat' (first | ((exact ⟨rfl, rfl⟩)) | exact trivial | rfl | exact rfl | exact subVs_d _ _ | exact subVs_dm _ _ | exact subD_refl _ | refine And.intro ?_ ?_))
    intro i hi
    rcases Nat.lt_or_ge i N with hlt | hge
    · have hd : decide ((i : Int) < f.senders) = true := decide_eq_true (by omega)
      have hms := mId_succ i
      repeat' (first
        | (with_reducible refine aw_seq ?_)
        | ((with_reducible refine twoG_intro ?_ ?_) <;> intro hTw <;> first | (exact Bool.noConfusion hTw) | ((try simp only [hTw, Bool.not_true, Bool.not_false, Bool.true_and, Bool.false_and, Bool.and_true, Bool.and_false, Bool.true_or, Bool.false_or, Bool.or_true, Bool.or_false]); (first | (guard_hyp hTw : true = true; clear hTw) | (guard_hyp hTw : false = false; clear hTw) | (revert hTw; intro _))))
        | ((with_reducible refine two_intro ?_ ?_) <;> intro hTw <;> first | (exact Bool.noConfusion hTw) | ((first | (guard_hyp hTw : true = true; clear hTw) | (guard_hyp hTw : false = false; clear hTw) | (revert hTw; intro _))))
        | ((with_reducible refine And.intro ?_ ?_); (focus (first | exact keyOk_int_ | omega | rfl | decide | grind)))
        | (with_reducible refine aw_block ?_)
        | (with_reducible refine aw_scope ?_)
        | ((first
            | ((with_reducible refine aw_regionA T_ok ?_ ?_); (focus kernel_rfl))
            | ((with_reducible refine aw_drawnA T_ok ?_ ?_ ?_ ?_); (focus kernel_rfl); (focus kernel_rfl); (focus (decide +kernel)))
            | ((with_reducible refine aw_drawnF T_ok ?_ ?_ ?_ ?_); (focus kernel_rfl); (focus kernel_rfl); (focus (decide +kernel)))
            | (with_reducible refine aw_label ?_)
            | ((with_reducible refine aw_rfM ?_ ?_); (focus kernel_rfl))
            | (with_reducible refine aw_skip ?_)
            | (with_reducible refine aw_exit ?_)
            | ((with_reducible refine aw_condM ?_ ?_); (focus kernel_rfl))
            | (with_reducible refine aw_ret ?_)
          ); simp only [↓avP, avQ, if_true, if_false, forall_const, beq_self_eq_true, eq_self, ne_eq, implies_true, reduceIte, Nat.reduceEqDiff, Nat.reduceAdd, Nat.reduceSub, Int.reduceToNat, Nat.reduceLeDiff, Nat.reduceLT, reduceCtorEq, Int.reduceEq, retQ, retL, resV, RetV, RetOk, SubL, intD_B, lotD_B, flowD_B, snocI, snocL, ty_3, ty_27, ty_4, ty_24, ty_43, ty_22, ty_68, lkM_I, upM_I, dlM_I, intV_getD, intV, hd]; try simp (disch := omega) only [av_w, av_t1, av_tp, Int.toNat_natCast]))
      refine ⟨i + 1, by omega, by dsimp only; omega, wk_of [(0, some 0), (1, some 1)] rfl rfl ?_ ?_⟩
      · simp only [wkT, wkB, wkB1, subV, subVs, subD, subB, lkN_n, lkN_c, lkT_n, lkT_c, lkB_n, lkB_c, if_true, if_false, reduceIte, Nat.reduceEqDiff, true_and, and_true, and_self, inT, ofA]
        (repeat' (first | exact trivial | rfl | exact rfl | exact subVs_d _ _ | exact subVs_dm _ _ | exact subD_refl _ | refine And.intro ?_ ?_))
      · simp only [wkT, wkB, wkB1, subV, subVs, subD, subB, lkN_n, lkN_c, lkT_n, lkT_c, lkB_n, lkB_c, if_true, if_false, reduceIte, Nat.reduceEqDiff, true_and, and_true, and_self, inT, ofA]
        rw [hms]
        (repeat' (first | ((exact subM_mI _ rfl)) | exact trivial | rfl | exact rfl | exact subVs_d _ _ | exact subVs_dm _ _ | exact subD_refl _ | refine And.intro ?_ ?_))
    obtain rfl : i = N := by omega
    have hd : decide ((i : Int) < f.senders) = false := decide_eq_false (by omega)
    repeat' (first
      | (with_reducible refine aw_seq ?_)
      | ((with_reducible refine twoG_intro ?_ ?_) <;> intro hTw <;> first | (exact Bool.noConfusion hTw) | ((try simp only [hTw, Bool.not_true, Bool.not_false, Bool.true_and, Bool.false_and, Bool.and_true, Bool.and_false, Bool.true_or, Bool.false_or, Bool.or_true, Bool.or_false]); (first | (guard_hyp hTw : true = true; clear hTw) | (guard_hyp hTw : false = false; clear hTw) | (revert hTw; intro _))))
      | ((with_reducible refine two_intro ?_ ?_) <;> intro hTw <;> first | (exact Bool.noConfusion hTw) | ((first | (guard_hyp hTw : true = true; clear hTw) | (guard_hyp hTw : false = false; clear hTw) | (revert hTw; intro _))))
      | ((with_reducible refine And.intro ?_ ?_); (focus (first | exact keyOk_int_ | omega | rfl | decide | grind)))
      | (with_reducible refine aw_block ?_)
      | (with_reducible refine aw_scope ?_)
      | ((first
          | ((with_reducible refine aw_regionA T_ok ?_ ?_); (focus kernel_rfl))
          | ((with_reducible refine aw_drawnA T_ok ?_ ?_ ?_ ?_); (focus kernel_rfl); (focus kernel_rfl); (focus (decide +kernel)))
          | ((with_reducible refine aw_drawnF T_ok ?_ ?_ ?_ ?_); (focus kernel_rfl); (focus kernel_rfl); (focus (decide +kernel)))
          | ((with_reducible apply callI_in T_ok Try.func49); (focus (dsimp only [Try.f49])); (focus rfl); (focus rfl); (focus kernel_rfl); (focus exact of_decide_eq_true (by kernel_rfl)); (focus kernel_rfl); (focus kernel_rfl); intro _)
          | (with_reducible refine aw_label ?_)
          | ((with_reducible refine aw_rfM ?_ ?_); (focus kernel_rfl))
          | (with_reducible refine aw_skip ?_)
          | (with_reducible refine aw_exit ?_)
          | ((with_reducible refine aw_condM ?_ ?_); (focus kernel_rfl))
          | (with_reducible refine aw_ret ?_)
        ); simp only [↓avP, avQ, if_true, if_false, forall_const, beq_self_eq_true, eq_self, ne_eq, implies_true, reduceIte, Nat.reduceEqDiff, Nat.reduceAdd, Nat.reduceSub, Int.reduceToNat, Nat.reduceLeDiff, Nat.reduceLT, reduceCtorEq, Int.reduceEq, retQ, retL, resV, RetV, RetOk, SubL, intD_B, lotD_B, flowD_B, snocI, snocL, ty_3, ty_27, ty_4, ty_24, ty_43, ty_22, ty_68, lkM_I, upM_I, dlM_I, intV_getD, intV, hd]; try simp (disch := omega) only [av_w, av_t1, av_tp, Int.toNat_natCast]))
    refine aw_loopI (fun x : Nat × List (Int × Int) => ⟨[(1, .ptr 0 0), (5, .mp 1), (7, .fn 72 [.ptr 2 0]), (37, .d (.sl 3 (lotD default) (f.lots.map lotD))), (38, vI f.lots.length), (39, vI x.1)],
      [(2, .cells 3 [vI (befF f x.1)]), (1, .map .i 3 (.int .i64 0) (.d (.c (.int .i64 0))) (mI x.2)), (0, .cells 24 (dV (flowD f)))], 3⟩)
      (fun x => x.1 ≤ f.lots.length ∧ OfInv i (fun s => followK f x.1 s) x.2) (fun x => f.lots.length - x.1) (0, mId i) ⟨Nat.zero_le _, mId_inv i⟩ (wk_of [(0, some 0), (1, some 1), (2, some 2)] rfl rfl ?_ ?_) ?_
    · simp only [wkT, wkB, wkB1, subV, subVs, subD, subB, lkN_n, lkN_c, lkT_n, lkT_c, lkB_n, lkB_c, if_true, if_false, reduceIte, Nat.reduceEqDiff, true_and, and_true, and_self, inT, ofA]
      (repeat' (first | exact trivial | rfl | exact rfl | exact subVs_d _ _ | exact subVs_dm _ _ | exact subD_refl _ | refine And.intro ?_ ?_))
    · simp only [wkT, wkB, wkB1, subV, subVs, subD, subB, lkN_n, lkN_c, lkT_n, lkT_c, lkB_n, lkB_c, if_true, if_false, reduceIte, Nat.reduceEqDiff, true_and, and_true, and_self, inT, ofA]
      (repeat' (first | ((exact subM_mI _ rfl)) | ((exact congrArg (fun n => D.c (Value.int IntKind.i64 n)) (show f.senders = befF f 0 by simp [befF]))) | exact trivial | rfl | exact rfl | exact subVs_d _ _ | exact subVs_dm _ _ | exact subD_refl _ | refine And.intro ?_ ?_))
    rintro ⟨k, M⟩ ⟨hkl, hI⟩
    dsimp only at hkl hI ⊢
    have hbb := befF_mono (f := f) (k := k) (by omega)
    rcases Nat.lt_or_ge k f.lots.length with hlt | hge2
    · have hd2 := ltd hlt
      have hg := goodL_at hc hlt
      have hpl := hg.pl (knownF_at hk hlt)
      have hb1 := befF_succ hlt
      have hbb2 := befF_mono (f := f) (k := k + 1) (by omega)
      have hok := hf.at k
      have hps : ∀ {j : Nat} {m : List (Int × Int)}, j < (f.lots.getD k default).inn.length → OfInv i (posJ f k j) m → _ := fun {j m} hj h => posJ_step hc hk hN hlt hj h
      have hp0 : OfInv i (posJ f k 0) M := hI.congr fun s _ => (posJ_zero k s).symm
      have hpa : ∀ m, OfInv i (posJ f k (f.lots.getD k default).inn.length) m → OfInv i (fun s => followK f (k + 1) s) m := fun m h => h.congr fun s _ => posJ_all k s
      obtain ⟨x, hx⟩ : ∃ x, x = f.lots.getD k default := ⟨_, rfl⟩
      rw [← hx] at hb1 hok hg hpl hpa
      simp only [← hx] at hps
      have hli := hok.li
      repeat' (first
        | (with_reducible refine aw_seq ?_)
        | ((with_reducible refine twoG_intro ?_ ?_) <;> intro hTw <;> first | (exact Bool.noConfusion hTw) | ((try simp only [hTw, Bool.not_true, Bool.not_false, Bool.true_and, Bool.false_and, Bool.and_true, Bool.and_false, Bool.true_or, Bool.false_or, Bool.or_true, Bool.or_false]); (first | (guard_hyp hTw : true = true; clear hTw) | (guard_hyp hTw : false = false; clear hTw) | (revert hTw; intro _))))
        | ((with_reducible refine two_intro ?_ ?_) <;> intro hTw <;> first | (exact Bool.noConfusion hTw) | ((first | (guard_hyp hTw : true = true; clear hTw) | (guard_hyp hTw : false = false; clear hTw) | (revert hTw; intro _))))
        | ((with_reducible refine And.intro ?_ ?_); (focus (first | exact keyOk_int_ | omega | rfl | decide | grind)))
        | (with_reducible refine aw_block ?_)
        | (with_reducible refine aw_scope ?_)
        | ((first
            | ((with_reducible refine aw_regionA T_ok ?_ ?_); (focus kernel_rfl))
            | ((with_reducible refine aw_drawnA T_ok ?_ ?_ ?_ ?_); (focus kernel_rfl); (focus kernel_rfl); (focus (decide +kernel)))
            | ((with_reducible refine aw_drawnF T_ok ?_ ?_ ?_ ?_); (focus kernel_rfl); (focus kernel_rfl); (focus (decide +kernel)))
            | ((with_reducible apply callI_in T_ok Try.func72); (focus (dsimp only [Try.f72])); (focus rfl); (focus rfl); (focus kernel_rfl); (focus exact of_decide_eq_true (by kernel_rfl)); (focus kernel_rfl); (focus kernel_rfl); intro _)
            | (with_reducible refine aw_label ?_)
            | ((with_reducible refine aw_rfM ?_ ?_); (focus kernel_rfl))
            | (with_reducible refine aw_skip ?_)
            | (with_reducible refine aw_exit ?_)
            | ((with_reducible refine aw_condM ?_ ?_); (focus kernel_rfl))
            | (with_reducible refine aw_ret ?_)
          ); simp only [↓avP, avQ, if_true, if_false, forall_const, beq_self_eq_true, eq_self, ne_eq, implies_true, reduceIte, Nat.reduceEqDiff, Nat.reduceAdd, Nat.reduceSub, Int.reduceToNat, Nat.reduceLeDiff, Nat.reduceLT, reduceCtorEq, Int.reduceEq, retQ, retL, resV, RetV, RetOk, SubL, intD_B, lotD_B, flowD_B, snocI, snocL, ty_3, ty_27, ty_4, ty_24, ty_43, ty_22, ty_68, lkM_I, upM_I, dlM_I, intV_getD, intV, hd2, ← hx]; try simp (disch := omega) only [av_w, av_t1, av_tp, Int.toNat_natCast]))
      have hadd : befF f k + (x.inn.length : Int) - x.inn.length = befF f k := by omega
      refine aw_loopI (fun y : Nat × List (Int × Int) => ⟨[(1, .ptr 0 0), (5, .mp 1), (7, .fn 72 [.ptr 2 0]), (37, .d (.sl 3 (lotD default) (f.lots.map lotD))), (38, vI f.lots.length), (39, vI k), (9, .ptr 3 0), (10, vI (befF f k)), (49, .d (.sl 1 (intD 0) (x.inn.map intD))), (50, vI x.inn.length), (51, vI y.1)],
        [(3, .cells 43 (dV (lotD x))), (2, .cells 3 [vI (befF f (k + 1))]), (1, .map .i 3 (.int .i64 0) (.d (.c (.int .i64 0))) (mI y.2)), (0, .cells 24 (dV (flowD f)))], 4⟩)
        (fun y => y.1 ≤ x.inn.length ∧ OfInv i (posJ f k y.1) y.2) (fun y => x.inn.length - y.1) (0, M) ⟨Nat.zero_le _, hp0⟩ (wk_of [(0, some 0), (1, some 1), (2, some 2), (3, some 3)] rfl rfl ?_ ?_) ?_
      · simp only [wkT, wkB, wkB1, subV, subVs, subD, subB, lkN_n, lkN_c, lkT_n, lkT_c, lkB_n, lkB_c, if_true, if_false, reduceIte, Nat.reduceEqDiff, true_and, and_true, and_self, inT, ofA]
        (repeat' (first | ((exact congrArg (fun n => D.c (Value.int IntKind.i64 n)) hadd)) | exact trivial | rfl | exact rfl | exact subVs_d _ _ | exact subVs_dm _ _ | exact subD_refl _ | refine And.intro ?_ ?_))
      · simp only [wkT, wkB, wkB1, subV, subVs, subD, subB, lkN_n, lkN_c, lkT_n, lkT_c, lkB_n, lkB_c, if_true, if_false, reduceIte, Nat.reduceEqDiff, true_and, and_true, and_self, inT, ofA]
        (repeat' (first | ((exact subM_mI _ rfl)) | ((exact congrArg (fun n => D.c (Value.int IntKind.i64 n)) hb1.symm)) | exact trivial | rfl | exact rfl | exact subVs_d _ _ | exact subVs_dm _ _ | exact subD_refl _ | refine And.intro ?_ ?_))
      rintro ⟨j, m⟩ ⟨hjl, hJ⟩
      dsimp only at hjl hJ ⊢
      rcases Nat.lt_or_ge j x.inn.length with hjlt | hjge
      · have hd3 := ltd hjlt
        obtain ⟨s0, hs0, hlk, hJ'⟩ := hps hjlt hJ
        have hfr := hg.fr _ (getD_mem hjlt)
        have hpj := hpl.2.2 _ (getD_mem (show j < x.perm.length by rw [hpl.1]; exact hjlt))
        have hpn := hpl.1
        repeat' (first
          | (with_reducible refine aw_seq ?_)
          | ((with_reducible refine twoG_intro ?_ ?_) <;> intro hTw <;> first | (exact Bool.noConfusion hTw) | ((try simp only [hTw, Bool.not_true, Bool.not_false, Bool.true_and, Bool.false_and, Bool.and_true, Bool.and_false, Bool.true_or, Bool.false_or, Bool.or_true, Bool.or_false]); (first | (guard_hyp hTw : true = true; clear hTw) | (guard_hyp hTw : false = false; clear hTw) | (revert hTw; intro _))))
          | ((with_reducible refine two_intro ?_ ?_) <;> intro hTw <;> first | (exact Bool.noConfusion hTw) | ((first | (guard_hyp hTw : true = true; clear hTw) | (guard_hyp hTw : false = false; clear hTw) | (revert hTw; intro _))))
          | ((with_reducible refine And.intro ?_ ?_); (focus (first | exact keyOk_int_ | omega | rfl | decide | grind)))
          | (with_reducible refine aw_block ?_)
          | (with_reducible refine aw_scope ?_)
          | ((first
              | ((with_reducible refine aw_regionA T_ok ?_ ?_); (focus kernel_rfl))
              | ((with_reducible refine aw_drawnA T_ok ?_ ?_ ?_ ?_); (focus kernel_rfl); (focus kernel_rfl); (focus (decide +kernel)))
              | ((with_reducible refine aw_drawnF T_ok ?_ ?_ ?_ ?_); (focus kernel_rfl); (focus kernel_rfl); (focus (decide +kernel)))
              | (with_reducible refine aw_label ?_)
              | ((with_reducible refine aw_rfM ?_ ?_); (focus kernel_rfl))
              | (with_reducible refine aw_skip ?_)
              | (with_reducible refine aw_exit ?_)
              | ((with_reducible refine aw_condM ?_ ?_); (focus kernel_rfl))
              | (with_reducible refine aw_ret ?_)
            ); simp only [↓avP, avQ, if_true, if_false, forall_const, beq_self_eq_true, eq_self, ne_eq, implies_true, reduceIte, Nat.reduceEqDiff, Nat.reduceAdd, Nat.reduceSub, Int.reduceToNat, Nat.reduceLeDiff, Nat.reduceLT, reduceCtorEq, Int.reduceEq, retQ, retL, resV, RetV, RetOk, SubL, intD_B, lotD_B, flowD_B, snocI, snocL, ty_3, ty_27, ty_4, ty_24, ty_43, ty_22, ty_68, lkM_I, upM_I, dlM_I, intV_getD, intV, hd3, hlk]; try simp (disch := omega) only [av_w, av_t1, av_tp, Int.toNat_natCast]))
        refine ⟨(j + 1, _), ⟨by omega, hJ'⟩, by dsimp only; omega, wk_of [(0, some 0), (1, some 1), (2, some 2), (3, some 3)] rfl rfl ?_ ?_⟩
        · simp only [wkT, wkB, wkB1, subV, subVs, subD, subB, lkN_n, lkN_c, lkT_n, lkT_c, lkB_n, lkB_c, if_true, if_false, reduceIte, Nat.reduceEqDiff, true_and, and_true, and_self, inT, ofA]
          (repeat' (first | exact trivial | rfl | exact rfl | exact subVs_d _ _ | exact subVs_dm _ _ | exact subD_refl _ | refine And.intro ?_ ?_))
        · simp only [wkT, wkB, wkB1, subV, subVs, subD, subB, lkN_n, lkN_c, lkT_n, lkT_c, lkB_n, lkB_c, if_true, if_false, reduceIte, Nat.reduceEqDiff, true_and, and_true, and_self, inT, ofA]
          (repeat' (first | ((exact subM_mI _ rfl)) | exact trivial | rfl | exact rfl | exact subVs_d _ _ | exact subVs_dm _ _ | exact subD_refl _ | refine And.intro ?_ ?_))
      · obtain rfl : j = x.inn.length := by omega
        have hd3 := ged (Nat.le_refl x.inn.length)
        repeat' (first
          | (with_reducible refine aw_seq ?_)
          | ((with_reducible refine twoG_intro ?_ ?_) <;> intro hTw <;> first | (exact Bool.noConfusion hTw) | ((try simp only [hTw, Bool.not_true, Bool.not_false, Bool.true_and, Bool.false_and, Bool.and_true, Bool.and_false, Bool.true_or, Bool.false_or, Bool.or_true, Bool.or_false]); (first | (guard_hyp hTw : true = true; clear hTw) | (guard_hyp hTw : false = false; clear hTw) | (revert hTw; intro _))))
          | ((with_reducible refine two_intro ?_ ?_) <;> intro hTw <;> first | (exact Bool.noConfusion hTw) | ((first | (guard_hyp hTw : true = true; clear hTw) | (guard_hyp hTw : false = false; clear hTw) | (revert hTw; intro _))))
          | ((with_reducible refine And.intro ?_ ?_); (focus (first | exact keyOk_int_ | omega | rfl | decide | grind)))
          | (with_reducible refine aw_block ?_)
          | (with_reducible refine aw_scope ?_)
          | ((first
              | ((with_reducible refine aw_regionA T_ok ?_ ?_); (focus kernel_rfl))
              | ((with_reducible refine aw_drawnA T_ok ?_ ?_ ?_ ?_); (focus kernel_rfl); (focus kernel_rfl); (focus (decide +kernel)))
              | ((with_reducible refine aw_drawnF T_ok ?_ ?_ ?_ ?_); (focus kernel_rfl); (focus kernel_rfl); (focus (decide +kernel)))
              | (with_reducible refine aw_label ?_)
              | ((with_reducible refine aw_rfM ?_ ?_); (focus kernel_rfl))
              | (with_reducible refine aw_skip ?_)
              | (with_reducible refine aw_exit ?_)
              | ((with_reducible refine aw_condM ?_ ?_); (focus kernel_rfl))
              | (with_reducible refine aw_ret ?_)
            ); simp only [↓avP, avQ, if_true, if_false, forall_const, beq_self_eq_true, eq_self, ne_eq, implies_true, reduceIte, Nat.reduceEqDiff, Nat.reduceAdd, Nat.reduceSub, Int.reduceToNat, Nat.reduceLeDiff, Nat.reduceLT, reduceCtorEq, Int.reduceEq, retQ, retL, resV, RetV, RetOk, SubL, intD_B, lotD_B, flowD_B, snocI, snocL, ty_3, ty_27, ty_4, ty_24, ty_43, ty_22, ty_68, lkM_I, upM_I, dlM_I, intV_getD, intV, hd3]; try simp (disch := omega) only [av_w, av_t1, av_tp, Int.toNat_natCast]))
        refine ⟨(k + 1, m), ⟨by omega, hpa m hJ⟩, by dsimp only; omega, wk_of [(0, some 0), (1, some 1), (2, some 2)] rfl rfl ?_ ?_⟩
        · simp only [wkT, wkB, wkB1, subV, subVs, subD, subB, lkN_n, lkN_c, lkT_n, lkT_c, lkB_n, lkB_c, if_true, if_false, reduceIte, Nat.reduceEqDiff, true_and, and_true, and_self, inT, ofA]
          (repeat' (first | exact trivial | rfl | exact rfl | exact subVs_d _ _ | exact subVs_dm _ _ | exact subD_refl _ | refine And.intro ?_ ?_))
        · simp only [wkT, wkB, wkB1, subV, subVs, subD, subB, lkN_n, lkN_c, lkT_n, lkT_c, lkB_n, lkB_c, if_true, if_false, reduceIte, Nat.reduceEqDiff, true_and, and_true, and_self, inT, ofA]
          (repeat' (first | ((exact subM_mI _ rfl)) | exact trivial | rfl | exact rfl | exact subVs_d _ _ | exact subVs_dm _ _ | exact subD_refl _ | refine And.intro ?_ ?_))
    obtain rfl : k = f.lots.length := by omega
    have hd2 := ged (Nat.le_refl f.lots.length)
    repeat' (first
      | (with_reducible refine aw_seq ?_)
      | ((with_reducible refine twoG_intro ?_ ?_) <;> intro hTw <;> first | (exact Bool.noConfusion hTw) | ((try simp only [hTw, Bool.not_true, Bool.not_false, Bool.true_and, Bool.false_and, Bool.and_true, Bool.and_false, Bool.true_or, Bool.false_or, Bool.or_true, Bool.or_false]); (first | (guard_hyp hTw : true = true; clear hTw) | (guard_hyp hTw : false = false; clear hTw) | (revert hTw; intro _))))
      | ((with_reducible refine two_intro ?_ ?_) <;> intro hTw <;> first | (exact Bool.noConfusion hTw) | ((first | (guard_hyp hTw : true = true; clear hTw) | (guard_hyp hTw : false = false; clear hTw) | (revert hTw; intro _))))
      | ((with_reducible refine And.intro ?_ ?_); (focus (first | exact keyOk_int_ | omega | rfl | decide | grind)))
      | (with_reducible refine aw_block ?_)
      | (with_reducible refine aw_scope ?_)
      | ((first
          | ((with_reducible refine aw_regionA T_ok ?_ ?_); (focus kernel_rfl))
          | ((with_reducible refine aw_drawnA T_ok ?_ ?_ ?_ ?_); (focus kernel_rfl); (focus kernel_rfl); (focus (decide +kernel)))
          | ((with_reducible refine aw_drawnF T_ok ?_ ?_ ?_ ?_); (focus kernel_rfl); (focus kernel_rfl); (focus (decide +kernel)))
          | ((with_reducible apply range_intro (M) (Try.underlying68)); (focus rfl); (focus rfl); (focus rfl); intro b bm ms clock hms)
          | (with_reducible refine aw_label ?_)
          | ((with_reducible refine aw_rfM ?_ ?_); (focus kernel_rfl))
          | (with_reducible refine aw_skip ?_)
          | (with_reducible refine aw_exit ?_)
          | ((with_reducible refine aw_condM ?_ ?_); (focus kernel_rfl))
          | (with_reducible refine aw_ret ?_)
        ); simp only [↓avP, avQ, if_true, if_false, forall_const, beq_self_eq_true, eq_self, ne_eq, implies_true, reduceIte, Nat.reduceEqDiff, Nat.reduceAdd, Nat.reduceSub, Int.reduceToNat, Nat.reduceLeDiff, Nat.reduceLT, reduceCtorEq, Int.reduceEq, retQ, retL, resV, RetV, RetOk, SubL, intD_B, lotD_B, flowD_B, snocI, snocL, ty_3, ty_27, ty_4, ty_24, ty_43, ty_22, ty_68, lkM_I, upM_I, dlM_I, intV_getD, intV, hd2]; try simp (disch := omega) only [av_w, av_t1, av_tp, Int.toNat_natCast]))
    have hrep : List.replicate f.senders.toNat (dV (zD (Value.int .i64 0))) = ((List.replicate i (0 : Int)).map intD).map dV := by
      rw [hN, Int.toNat_natCast, List.map_replicate, List.map_replicate]
      rfl
    rw [hrep]
    refine aw_loopI (fun y : Array Nat × List Int => ⟨[(2, .mo 3), (75, .ptr 4 0)],
      [(4, .raw b (.mapIter (some bm) clock y.1 clock)), (3, .row 3 1 (dV (intD 0)) ((y.2.map intD).map dV)), (1, .raw bm (.map ms clock))], 5⟩)
      (fun y => y.2.length = i ∧ ∀ e ∈ ms.toList, y.1.contains e.born = true → ∀ (t : Int) (s : Nat), e.key = .int .i64 t → e.val = .int .i64 s → y.2.getD s 0 = t) (fun y => (leftOf ms y.1).size) (#[], List.replicate i 0)
      ⟨by simp, fun e _ h => by simp at h⟩ (wk_of [(1, some 1), (3, some 3), (4, some 4)] rfl rfl ?_ ?_) ?_
    · simp only [wkT, wkB, wkB1, subV, subVs, subD, subB, lkN_n, lkN_c, lkT_n, lkT_c, lkB_n, lkB_c, if_true, if_false, reduceIte, Nat.reduceEqDiff, true_and, and_true, and_self, inT, ofA]
      (repeat' (first | exact trivial | rfl | exact rfl | exact subVs_d _ _ | exact subVs_dm _ _ | exact subD_refl _ | refine And.intro ?_ ?_))
    · simp only [wkT, wkB, wkB1, subV, subVs, subD, subB, lkN_n, lkN_c, lkT_n, lkT_c, lkB_n, lkB_c, if_true, if_false, reduceIte, Nat.reduceEqDiff, true_and, and_true, and_self, inT, ofA]
      exact subVs_row _ _
    rintro ⟨seen, L⟩ ⟨hL, hseen⟩
    dsimp only at hL hseen ⊢
    repeat' (first
      | (with_reducible refine aw_seq ?_)
      | ((with_reducible refine twoG_intro ?_ ?_) <;> intro hTw <;> first | (exact Bool.noConfusion hTw) | ((try simp only [hTw, Bool.not_true, Bool.not_false, Bool.true_and, Bool.false_and, Bool.and_true, Bool.and_false, Bool.true_or, Bool.false_or, Bool.or_true, Bool.or_false]); (first | (guard_hyp hTw : true = true; clear hTw) | (guard_hyp hTw : false = false; clear hTw) | (revert hTw; intro _))))
      | ((with_reducible refine two_intro ?_ ?_) <;> intro hTw <;> first | (exact Bool.noConfusion hTw) | ((first | (guard_hyp hTw : true = true; clear hTw) | (guard_hyp hTw : false = false; clear hTw) | (revert hTw; intro _))))
      | ((with_reducible refine And.intro ?_ ?_); (focus (first | exact keyOk_int_ | omega | rfl | decide | grind)))
      | (with_reducible refine aw_block ?_)
      | (with_reducible refine aw_scope ?_)
      | ((first
          | ((with_reducible refine aw_regionA T_ok ?_ ?_); (focus kernel_rfl))
          | ((with_reducible refine aw_drawnA T_ok ?_ ?_ ?_ ?_); (focus kernel_rfl); (focus kernel_rfl); (focus (decide +kernel)))
          | ((with_reducible refine aw_drawnF T_ok ?_ ?_ ?_ ?_); (focus kernel_rfl); (focus kernel_rfl); (focus (decide +kernel)))
          | ((with_reducible apply next_intro 1 (hbo := hms.born)); (focus rfl); (focus rfl); (focus rfl))
          | (with_reducible refine aw_label ?_)
          | ((with_reducible refine aw_rfM ?_ ?_); (focus kernel_rfl))
          | (with_reducible refine aw_skip ?_)
          | (with_reducible refine aw_exit ?_)
          | ((with_reducible refine aw_condM ?_ ?_); (focus kernel_rfl))
          | (with_reducible refine aw_ret ?_)
        ); simp only [↓avP, avQ, if_true, if_false, forall_const, beq_self_eq_true, eq_self, ne_eq, implies_true, reduceIte, Nat.reduceEqDiff, Nat.reduceAdd, Nat.reduceSub, Int.reduceToNat, Nat.reduceLeDiff, Nat.reduceLT, reduceCtorEq, Int.reduceEq, retQ, retL, resV, RetV, RetOk, SubL, intD_B, lotD_B, flowD_B, snocI, snocL, ty_3, ty_27, ty_4, ty_24, ty_43, ty_22, ty_68, lkM_I, upM_I, dlM_I, intV_getD, intV]; try simp (disch := omega) only [av_w, av_t1, av_tp, Int.toNat_natCast]))
    refine ⟨fun hz => ?_, fun e hel => ?_⟩
    · repeat (first
        | (with_reducible refine aw_seq ?_)
        | ((with_reducible refine And.intro ?_ ?_); (focus (first | exact keyOk_int_ | omega | rfl | decide | grind)))
        | (with_reducible refine aw_block ?_)
        | (with_reducible refine aw_scope ?_)
        | ((first
            | ((with_reducible refine aw_regionA T_ok ?_ ?_); (focus kernel_rfl))
            | ((with_reducible refine aw_drawnA T_ok ?_ ?_ ?_ ?_); (focus kernel_rfl); (focus kernel_rfl); (focus (decide +kernel)))
            | ((with_reducible refine aw_drawnF T_ok ?_ ?_ ?_ ?_); (focus kernel_rfl); (focus kernel_rfl); (focus (decide +kernel)))
            | (with_reducible refine aw_label ?_)
            | ((with_reducible refine aw_rfM ?_ ?_); (focus kernel_rfl))
            | (with_reducible refine aw_skip ?_)
            | (with_reducible refine aw_exit ?_)
          ); simp only [↓avP, avQ, if_true, if_false, forall_const, beq_self_eq_true, eq_self, ne_eq, implies_true, reduceIte, Nat.reduceEqDiff, Nat.reduceAdd, Nat.reduceSub, Int.reduceToNat, Nat.reduceLeDiff, Nat.reduceLT, reduceCtorEq, Int.reduceEq, retQ, retL, resV, RetV, RetOk, SubL, intD_B, lotD_B, flowD_B, snocI, snocL, ty_3, ty_27, ty_4, ty_24, ty_43, ty_22, ty_68, lkM_I, upM_I, dlM_I, intV_getD, intV]; try simp (disch := omega) only [av_w, av_t1, av_tp, Int.toNat_natCast]))
      refine aw_frz 3 (intD 0) (L.map intD) rfl rfl ?_
      dsimp only [frzT]
      repeat' (first
        | (with_reducible refine aw_seq ?_)
        | ((with_reducible refine twoG_intro ?_ ?_) <;> intro hTw <;> first | (exact Bool.noConfusion hTw) | ((try simp only [hTw, Bool.not_true, Bool.not_false, Bool.true_and, Bool.false_and, Bool.and_true, Bool.and_false, Bool.true_or, Bool.false_or, Bool.or_true, Bool.or_false]); (first | (guard_hyp hTw : true = true; clear hTw) | (guard_hyp hTw : false = false; clear hTw) | (revert hTw; intro _))))
        | ((with_reducible refine two_intro ?_ ?_) <;> intro hTw <;> first | (exact Bool.noConfusion hTw) | ((first | (guard_hyp hTw : true = true; clear hTw) | (guard_hyp hTw : false = false; clear hTw) | (revert hTw; intro _))))
        | ((with_reducible refine And.intro ?_ ?_); (focus (first | exact keyOk_int_ | omega | rfl | decide | grind)))
        | (with_reducible refine aw_block ?_)
        | (with_reducible refine aw_scope ?_)
        | ((first
            | ((with_reducible refine aw_regionA T_ok ?_ ?_); (focus kernel_rfl))
            | ((with_reducible refine aw_drawnA T_ok ?_ ?_ ?_ ?_); (focus kernel_rfl); (focus kernel_rfl); (focus (decide +kernel)))
            | ((with_reducible refine aw_drawnF T_ok ?_ ?_ ?_ ?_); (focus kernel_rfl); (focus kernel_rfl); (focus (decide +kernel)))
            | (with_reducible refine aw_label ?_)
            | ((with_reducible refine aw_rfM ?_ ?_); (focus kernel_rfl))
            | (with_reducible refine aw_skip ?_)
            | (with_reducible refine aw_exit ?_)
            | ((with_reducible refine aw_condM ?_ ?_); (focus kernel_rfl))
            | (with_reducible refine aw_ret ?_)
          ); simp only [↓avP, avQ, if_true, if_false, forall_const, beq_self_eq_true, eq_self, ne_eq, implies_true, reduceIte, Nat.reduceEqDiff, Nat.reduceAdd, Nat.reduceSub, Int.reduceToNat, Nat.reduceLeDiff, Nat.reduceLT, reduceCtorEq, Int.reduceEq, retQ, retL, resV, RetV, RetOk, SubL, intD_B, lotD_B, flowD_B, snocI, snocL, ty_3, ty_27, ty_4, ty_24, ty_43, ty_22, ty_68, lkM_I, upM_I, dlM_I, intV_getD, intV]; try simp (disch := omega) only [av_w, av_t1, av_tp, Int.toNat_natCast]))
      have hLm : L = mapAt f i := by
        refine List.ext_getElem? fun s => ?_
        rcases Nat.lt_or_ge s i with hs | hs
        · obtain ⟨e, he, hek, hev⟩ := ofInv_some hI hms hs
          have hall : seen.contains e.born = true := left_none hz he
          have := hseen e he hall _ s hek hev
          rw [List.getD_eq_getElem?_getD, List.getElem?_eq_getElem (by omega), Option.getD_some] at this
          rw [List.getElem?_eq_getElem (by omega), this, mapAt, List.getElem?_map, List.getElem?_range hs]
          rfl
        · rw [List.getElem?_eq_none (by omega), List.getElem?_eq_none (by rw [mapAt_len]; exact hs)]
      rw [hR, he, ← hLm]
      exact ⟨Sub.refl _, Sub.refl _⟩
    · obtain ⟨he1, he2⟩ := mem_left hel
      obtain ⟨t, s, hek, hev, hsi, hfo⟩ := ofInv_entry hI hms he1
      repeat' (first
        | (with_reducible refine aw_seq ?_)
        | ((with_reducible refine twoG_intro ?_ ?_) <;> intro hTw <;> first | (exact Bool.noConfusion hTw) | ((try simp only [hTw, Bool.not_true, Bool.not_false, Bool.true_and, Bool.false_and, Bool.and_true, Bool.and_false, Bool.true_or, Bool.false_or, Bool.or_true, Bool.or_false]); (first | (guard_hyp hTw : true = true; clear hTw) | (guard_hyp hTw : false = false; clear hTw) | (revert hTw; intro _))))
        | ((with_reducible refine two_intro ?_ ?_) <;> intro hTw <;> first | (exact Bool.noConfusion hTw) | ((first | (guard_hyp hTw : true = true; clear hTw) | (guard_hyp hTw : false = false; clear hTw) | (revert hTw; intro _))))
        | ((with_reducible refine And.intro ?_ ?_); (focus (first | exact keyOk_int_ | omega | rfl | decide | grind)))
        | (with_reducible refine aw_block ?_)
        | (with_reducible refine aw_scope ?_)
        | ((first
            | ((with_reducible refine aw_regionA T_ok ?_ ?_); (focus kernel_rfl))
            | ((with_reducible refine aw_drawnA T_ok ?_ ?_ ?_ ?_); (focus kernel_rfl); (focus kernel_rfl); (focus (decide +kernel)))
            | ((with_reducible refine aw_drawnF T_ok ?_ ?_ ?_ ?_); (focus kernel_rfl); (focus kernel_rfl); (focus (decide +kernel)))
            | ((with_reducible apply entry_intro 1 (hbo := hms.born) (he := he1)); (focus rfl); (focus rfl); (focus rfl))
            | (with_reducible refine aw_label ?_)
            | ((with_reducible refine aw_rfM ?_ ?_); (focus kernel_rfl))
            | (with_reducible refine aw_skip ?_)
            | (with_reducible refine aw_exit ?_)
            | ((with_reducible refine aw_condM ?_ ?_); (focus kernel_rfl))
            | (with_reducible refine aw_ret ?_)
          ); simp only [↓avP, avQ, if_true, if_false, forall_const, beq_self_eq_true, eq_self, ne_eq, implies_true, reduceIte, Nat.reduceEqDiff, Nat.reduceAdd, Nat.reduceSub, Int.reduceToNat, Nat.reduceLeDiff, Nat.reduceLT, reduceCtorEq, Int.reduceEq, retQ, retL, resV, RetV, RetOk, SubL, intD_B, lotD_B, flowD_B, snocI, snocL, ty_3, ty_27, ty_4, ty_24, ty_43, ty_22, ty_68, lkM_I, upM_I, dlM_I, intV_getD, intV, hek, hev]; try simp (disch := omega) only [av_w, av_t1, av_tp, Int.toNat_natCast]))
      refine ⟨(seen.push e.born, L.set s t), ⟨by simp [hL], fun e' he' hc' t' s' hk' hv' => ?_⟩, left_shrinks _ _ _ hel, wk_of [(1, some 1), (3, some 3), (4, some 4)] rfl rfl ?_ ?_⟩
      · obtain ⟨t2, s2, hek2, hev2, hsi2, hfo2⟩ := ofInv_entry hI hms he'
        rw [hek2] at hk'
        rw [hev2] at hv'
        cases hk'
        have hs' : s2 = s' := by
          simp only [Value.int.injEq, true_and] at hv'
          omega
        subst hs'
        by_cases hss : s = s2
        · subst hss
          rw [List.getD_eq_getElem?_getD, List.getElem?_set_self (by omega), Option.getD_some, ← hfo, hfo2]
        · rw [List.getD_eq_getElem?_getD, List.getElem?_set_ne hss, ← List.getD_eq_getElem?_getD]
          refine hseen e' he' ?_ _ _ hek2 hev2
          rw [Array.contains_push] at hc'
          rw [Bool.or_eq_true] at hc'
          rcases hc' with hc' | hc'
          · exact hc'
          · exfalso
            have hb : e'.born = e.born := by simpa using hc'
            have := born_inj hms.born he' he1 hb
            subst this
            rw [hev] at hev2
            simp only [Value.int.injEq, true_and] at hev2
            omega
      · simp only [wkT, wkB, wkB1, subV, subVs, subD, subB, lkN_n, lkN_c, lkT_n, lkT_c, lkB_n, lkB_c, if_true, if_false, reduceIte, Nat.reduceEqDiff, true_and, and_true, and_self, inT, ofA]
      · simp only [wkT, wkB, wkB1, subV, subVs, subD, subB, lkN_n, lkN_c, lkT_n, lkT_c, lkB_n, lkB_c, if_true, if_false, reduceIte, Nat.reduceEqDiff, true_and, and_true, and_self, inT, ofA]
        rw [row_set L s t]
        exact ⟨rfl, subVs_row _ _⟩
end Go.Proofs.Ytfndjciojljkfaa


namespace Go.Proofs.Ytfndjciojljkfaa
set_option linter.unusedSimpArgs false
set_option linter.unusedVariables false
open Go.RowKit
set_option maxRecDepth 100000
set_option maxHeartbeats 4000000
theorem Spec.args {P : Program} {f : FuncId} {xs ys : List A} {r : Ret} (h : Spec P f ys r) (hs : SubL xs ys) : Spec P f xs r := fun F w us hF ha => h F w us hF (subL_ok hs ha)
def okIb (l : List Int) : Bool := l.all (fun n => decide (-9223372036854775808 ≤ n ∧ n ≤ 9223372036854775807)) && decide (l.length ≤ 140737488351232)
theorem okI_b {l : List Int} (h : okIb l = true) : (∀ n ∈ l, -9223372036854775808 ≤ n ∧ n ≤ 9223372036854775807) ∧ l.length ≤ 140737488351232 := by
  unfold okIb at h
  simp only [Bool.and_eq_true, List.all_eq_true, decide_eq_true_eq] at h
  exact h
def okFb (f : FlowP) : Bool := decide (-9223372036854775808 ≤ f.senders ∧ f.senders ≤ 9223372036854775807) && decide (f.lots.length ≤ 140737488351232) && f.lots.all fun x => okIb x.inn && okIb x.perm
theorem okF_b {f : FlowP} (h : okFb f = true) : OkF f := by
  unfold okFb at h
  simp only [Bool.and_eq_true, List.all_eq_true, decide_eq_true_eq] at h
  exact ⟨h.1.1, h.1.2, fun x hx => ⟨(okI_b (h.2 x hx).1).1, (okI_b (h.2 x hx).2).1, (okI_b (h.2 x hx).1).2, (okI_b (h.2 x hx).2).2⟩⟩
abbrev iL (n : Int) : D := .c (.int .i64 n)
abbrev nilL : D := .c (.slice none 0 0)
abbrev isL (l : List Int) : D := .sl 1 (zD (.int .i64 0)) (l.map fun n => [iL n])
abbrev lotZ : List D := zD (.agg #[.slice none 0 0, .bool false, .slice none 0 0])
abbrev xF1 : A := .agg [iL 3, .sl 3 lotZ [[isL [0, 2], .c (.bool true), isL [1, 0]]]]
abbrev xG1 : A := .agg [iL 3, .sl 3 lotZ [[isL [0, 2], .c (.bool false), nilL]]]
abbrev xN (n : Int) : A := .agg [iL n, nilL]
abbrev F1 : FlowP := ⟨3, [⟨[0, 2], true, [1, 0]⟩]⟩
abbrev G1 : FlowP := ⟨3, [⟨[0, 2], false, []⟩]⟩
abbrev xL : A := .one (.sl 1 (zD (.slice none 0 0)) [[isL [1, 2]]])
theorem sub_is (l : List Int) : SubD (isL l) (.sl 1 (intD 0) (l.map intD)) := SubD.refl _
theorem sub_nil {sz : Nat} {d0 : List D} : SubD nilL (.sl sz d0 []) := SubD.of _ _ rfl
theorem sF1 : Sub xF1 (.agg (flowD F1)) := Sub.aggL ⟨SubD.refl _, SubD.sl ⟨⟨sub_is _, SubD.refl _, sub_is _, trivial⟩, trivial⟩, trivial⟩
theorem sG1 : Sub xG1 (.agg (flowD G1)) := Sub.aggL ⟨SubD.refl _, SubD.sl ⟨⟨sub_is _, SubD.refl _, sub_nil, trivial⟩, trivial⟩, trivial⟩
theorem sN (n : Int) : Sub (xN n) (.agg (flowD ⟨n, []⟩)) := Sub.aggL ⟨SubD.refl _, sub_nil, trivial⟩
theorem sL : Sub xL (aIss [[1, 2]]) := fun F w v hv => SubD.sl (sz := 1) (d0 := zD (.slice none 0 0)) (d1 := [.sl 1 (intD 0) []]) (es := [[isL [1, 2]]]) (fs := [[.sl 1 (intD 0) ([1, 2].map intD)]]) ⟨⟨sub_is _, trivial⟩, trivial⟩ F w v hv
theorem ex_ends {x : A} {f : FlowP} (l : List Int) (e : Int) (hx : Sub x (.agg (flowD f))) (hf : okFb f = true) (h1 : endsR f = l) (h2 : checkF f = e) : Spec Try.prog 18 [x] (.rt [aIs l, aI e]) := by
  subst h1 h2
  exact (fends_spec f (okF_b hf)).args ⟨hx, trivial⟩
theorem ex_map {x : A} {f : FlowP} (l : List Int) (e : Int) (hx : Sub x (.agg (flowD f))) (hf : okFb f = true) (h1 : mapR f = l) (h2 : errM f = e) : Spec Try.prog 24 [x] (.rt [aIs l, aI e]) := by
  subst h1 h2
  exact (fmap_spec f (okF_b hf)).args ⟨hx, trivial⟩
theorem ex_fcheck {x : A} {f : FlowP} (e : Int) (hx : Sub x (.agg (flowD f))) (hf : okFb f = true) (h2 : checkF f = e) : Spec Try.prog 20 [x] (.r1 (aI e)) := by
  subst h2
  exact (fcheck_spec f (okF_b hf)).args ⟨hx, trivial⟩
theorem ex_view {x y z : A} {f : FlowP} {ls : List (List Int)} {co : List Int} (g : FlowP) (e : Int) (hx : Sub x (.agg (flowD f))) (hy : Sub y (aIss ls)) (hz : Sub z (aIs co)) (hf : okFb f = true) (hl : (ls.all okIb && decide (ls.length ≤ 140737488351232)) = true) (hc : okIb co = true) (h1 : viewR f ls co = g) (h2 : errV f ls co = e) :
    Spec Try.prog 26 [x, y, z] (.rt [.agg (flowD g), aI e]) := by
  subst h1 h2
  simp only [Bool.and_eq_true, List.all_eq_true, decide_eq_true_eq] at hl
  exact (fview_spec f ls co (okF_b hf) hl.2 (fun x hx => ⟨(okI_b (hl.1 x hx)).2, (okI_b (hl.1 x hx)).1⟩) (okI_b hc).2 (okI_b hc).1).args ⟨hx, hy, hz, trivial⟩
theorem ex_same {x y : A} {f g : FlowP} (hx : Sub x (.agg (flowD f))) (hy : Sub y (.agg (flowD g))) (hf : okFb f = true) (hg : okFb g = true) : Spec Try.prog 28 [x, y] (.r1 (aB (decide (f = g)))) :=
  (qfsame_spec f g (okF_b hf) (okF_b hg)).args ⟨hx, hy, trivial⟩
theorem fsane_spec : Spec Try.prog 16 [] (.r1 (aB true)) := by
  refine spec_of T_ok Try.func16 (by dsimp only [Try.f16]) rfl rfl (by simp) fun w F => ?_
  have s1 := ex_ends [1, 3, 4] 0 sF1 (by decide +kernel) (by decide +kernel) (by decide +kernel)
  have s2 := ex_map [4, 1, 3] 0 sF1 (by decide +kernel) (by decide +kernel) (by decide +kernel)
  have s3 := ex_ends [0, 1] 0 (sN 2) (by decide +kernel) (by decide +kernel) (by decide +kernel)
  have s4 := ex_view (z := .one (isL [1])) G1 0 sF1 sL (Sub.refl (aIs [1])) (by decide +kernel) (by decide +kernel) (by decide +kernel) (by decide +kernel) (by decide +kernel)
  have s5 := ex_view (z := .one (isL [1, 2])) F1 0 sF1 sL (Sub.refl (aIs [1, 2])) (by decide +kernel) (by decide +kernel) (by decide +kernel) (by decide +kernel) (by decide +kernel)
  have s6 := ex_map (f := G1) [] 1 (Sub.refl _) (by decide +kernel) (by decide +kernel) (by decide +kernel)
  have s7 := ex_view (y := .one nilL) (z := .one nilL) (ls := []) (co := []) default 1 sF1 (Sub.nil _ _) (Sub.nil _ _) (by decide +kernel) (by decide +kernel) (by decide +kernel) (by decide +kernel) (by decide +kernel)
  have q1 := ex_same (f := G1) (g := G1) (Sub.refl _) sG1 (by decide +kernel) (by decide +kernel)
  have q2 := ex_same (f := F1) (g := F1) (Sub.refl _) sF1 (by decide +kernel) (by decide +kernel)
  have c1 := ex_fcheck 0 sF1 (by decide +kernel) (by decide +kernel)
  have c2 := ex_fcheck 0 (sN 0) (by decide +kernel) (by decide +kernel)
  have c3 := ex_fcheck (x := .agg [iL 1, .sl 3 lotZ [[nilL, .c (.bool false), nilL]]]) (f := ⟨1, [default]⟩) 250 (Sub.aggL ⟨SubD.refl _, SubD.sl ⟨⟨sub_nil, SubD.refl _, sub_nil, trivial⟩, trivial⟩, trivial⟩) (by decide +kernel) (by decide +kernel)
  have c4 := ex_fcheck (x := .agg [iL 1, .sl 3 lotZ [[isL [0], .c (.bool false), nilL], [isL [0], .c (.bool false), nilL]]]) (f := ⟨1, [⟨[0], false, []⟩, ⟨[0], false, []⟩]⟩) 250 (Sub.aggL ⟨SubD.refl _, SubD.sl ⟨⟨sub_is _, SubD.refl _, sub_nil, trivial⟩, ⟨sub_is _, SubD.refl _, sub_nil, trivial⟩, trivial⟩, trivial⟩) (by decide +kernel) (by decide +kernel)
  have c5 := ex_fcheck 250 (sN (-1)) (by decide +kernel) (by decide +kernel)
  have c6 := ex_fcheck 2 (sN 65) (by decide +kernel) (by decide +kernel)
  have e1 := sameInts_spec [1, 3, 4] [1, 3, 4] (by decide)
  have e2 := sameInts_spec [4, 1, 3] [4, 1, 3] (by decide)
  have e3 := sameInts_spec [0, 1] [0, 1] (by decide)
  repeat' (first
    | (with_reducible refine aw_seq ?_)
    | ((with_reducible refine twoG_intro ?_ ?_) <;> intro hTw <;> first | (exact Bool.noConfusion hTw) | ((try simp only [hTw, Bool.not_true, Bool.not_false, Bool.true_and, Bool.false_and, Bool.and_true, Bool.and_false, Bool.true_or, Bool.false_or, Bool.or_true, Bool.or_false]); (first | (guard_hyp hTw : true = true; clear hTw) | (guard_hyp hTw : false = false; clear hTw) | (revert hTw; intro _))))
    | ((with_reducible refine two_intro ?_ ?_) <;> intro hTw <;> first | (exact Bool.noConfusion hTw) | ((first | (guard_hyp hTw : true = true; clear hTw) | (guard_hyp hTw : false = false; clear hTw) | (revert hTw; intro _))))
    | ((with_reducible refine And.intro ?_ ?_); (focus (first | omega | rfl | decide | grind)))
    | (with_reducible refine aw_block ?_)
    | (with_reducible refine aw_scope ?_)
    | ((first
        | ((with_reducible refine aw_regionA T_ok ?_ ?_); (focus kernel_rfl))
        | ((with_reducible refine aw_drawnA T_ok ?_ ?_ ?_ ?_); (focus kernel_rfl); (focus kernel_rfl); (focus (decide +kernel)))
        | ((with_reducible refine aw_drawnF T_ok ?_ ?_ ?_ ?_); (focus kernel_rfl); (focus kernel_rfl); (focus (decide +kernel)))
        | ((with_reducible refine callK_intro (s1) (by with_unfolding_all rfl) ?_ ?_); (focus kernel_rfl))
        | ((with_reducible refine callI_spec (s1) (by with_unfolding_all rfl) ?_ ?_ ?_); (focus kernel_rfl); (focus kernel_rfl))
        | ((with_reducible refine callK_intro (s2) (by with_unfolding_all rfl) ?_ ?_); (focus kernel_rfl))
        | ((with_reducible refine callI_spec (s2) (by with_unfolding_all rfl) ?_ ?_ ?_); (focus kernel_rfl); (focus kernel_rfl))
        | ((with_reducible refine callK_intro (s3) (by with_unfolding_all rfl) ?_ ?_); (focus kernel_rfl))
        | ((with_reducible refine callI_spec (s3) (by with_unfolding_all rfl) ?_ ?_ ?_); (focus kernel_rfl); (focus kernel_rfl))
        | ((with_reducible refine callK_intro (s4) (by with_unfolding_all rfl) ?_ ?_); (focus kernel_rfl))
        | ((with_reducible refine callI_spec (s4) (by with_unfolding_all rfl) ?_ ?_ ?_); (focus kernel_rfl); (focus kernel_rfl))
        | ((with_reducible refine callK_intro (s5) (by with_unfolding_all rfl) ?_ ?_); (focus kernel_rfl))
        | ((with_reducible refine callI_spec (s5) (by with_unfolding_all rfl) ?_ ?_ ?_); (focus kernel_rfl); (focus kernel_rfl))
        | ((with_reducible refine callK_intro (s6) (by with_unfolding_all rfl) ?_ ?_); (focus kernel_rfl))
        | ((with_reducible refine callI_spec (s6) (by with_unfolding_all rfl) ?_ ?_ ?_); (focus kernel_rfl); (focus kernel_rfl))
        | ((with_reducible refine callK_intro (s7) (by with_unfolding_all rfl) ?_ ?_); (focus kernel_rfl))
        | ((with_reducible refine callI_spec (s7) (by with_unfolding_all rfl) ?_ ?_ ?_); (focus kernel_rfl); (focus kernel_rfl))
        | ((with_reducible refine callK_intro (q1) (by with_unfolding_all rfl) ?_ ?_); (focus kernel_rfl))
        | ((with_reducible refine callI_spec (q1) (by with_unfolding_all rfl) ?_ ?_ ?_); (focus kernel_rfl); (focus kernel_rfl))
        | ((with_reducible refine callK_intro (q2) (by with_unfolding_all rfl) ?_ ?_); (focus kernel_rfl))
        | ((with_reducible refine callI_spec (q2) (by with_unfolding_all rfl) ?_ ?_ ?_); (focus kernel_rfl); (focus kernel_rfl))
        | ((with_reducible refine callK_intro (c1) (by with_unfolding_all rfl) ?_ ?_); (focus kernel_rfl))
        | ((with_reducible refine callI_spec (c1) (by with_unfolding_all rfl) ?_ ?_ ?_); (focus kernel_rfl); (focus kernel_rfl))
        | ((with_reducible refine callK_intro (c2) (by with_unfolding_all rfl) ?_ ?_); (focus kernel_rfl))
        | ((with_reducible refine callI_spec (c2) (by with_unfolding_all rfl) ?_ ?_ ?_); (focus kernel_rfl); (focus kernel_rfl))
        | ((with_reducible refine callK_intro (c3) (by with_unfolding_all rfl) ?_ ?_); (focus kernel_rfl))
        | ((with_reducible refine callI_spec (c3) (by with_unfolding_all rfl) ?_ ?_ ?_); (focus kernel_rfl); (focus kernel_rfl))
        | ((with_reducible refine callK_intro (c4) (by with_unfolding_all rfl) ?_ ?_); (focus kernel_rfl))
        | ((with_reducible refine callI_spec (c4) (by with_unfolding_all rfl) ?_ ?_ ?_); (focus kernel_rfl); (focus kernel_rfl))
        | ((with_reducible refine callK_intro (c5) (by with_unfolding_all rfl) ?_ ?_); (focus kernel_rfl))
        | ((with_reducible refine callI_spec (c5) (by with_unfolding_all rfl) ?_ ?_ ?_); (focus kernel_rfl); (focus kernel_rfl))
        | ((with_reducible refine callK_intro (c6) (by with_unfolding_all rfl) ?_ ?_); (focus kernel_rfl))
        | ((with_reducible refine callI_spec (c6) (by with_unfolding_all rfl) ?_ ?_ ?_); (focus kernel_rfl); (focus kernel_rfl))
        | ((with_reducible refine callK_intro (e1) (by with_unfolding_all rfl) ?_ ?_); (focus kernel_rfl))
        | ((with_reducible refine callI_spec (e1) (by with_unfolding_all rfl) ?_ ?_ ?_); (focus kernel_rfl); (focus kernel_rfl))
        | ((with_reducible refine callK_intro (e2) (by with_unfolding_all rfl) ?_ ?_); (focus kernel_rfl))
        | ((with_reducible refine callI_spec (e2) (by with_unfolding_all rfl) ?_ ?_ ?_); (focus kernel_rfl); (focus kernel_rfl))
        | ((with_reducible refine callK_intro (e3) (by with_unfolding_all rfl) ?_ ?_); (focus kernel_rfl))
        | ((with_reducible refine callI_spec (e3) (by with_unfolding_all rfl) ?_ ?_ ?_); (focus kernel_rfl); (focus kernel_rfl))
        | (with_reducible refine aw_label ?_)
        | ((with_reducible refine aw_rfM ?_ ?_); (focus kernel_rfl))
        | (with_reducible refine aw_skip ?_)
        | (with_reducible refine aw_exit ?_)
        | ((with_reducible refine aw_condM ?_ ?_); (focus kernel_rfl))
        | (with_reducible refine aw_ret ?_)
      ); simp only [↓avP, avQ, if_true, if_false, forall_const, beq_self_eq_true, eq_self, ne_eq, implies_true, reduceIte, Nat.reduceEqDiff, Nat.reduceAdd, Nat.reduceSub, Int.reduceToNat, Nat.reduceLeDiff, Nat.reduceLT, reduceCtorEq, Int.reduceEq, retQ, retL, resV, RetV, RetOk, SubL, intD_B, lotD_B, flowD_B, snocI, snocL, ty_3, ty_27, ty_4, ty_24, ty_43, ty_22, ty_33]; try simp (disch := omega) only [av_w, av_t1, av_tp, Int.toNat_natCast]))
  all_goals exact Sub.of_eq (congrArg aB (by decide))
end Go.Proofs.Ytfndjciojljkfaa

