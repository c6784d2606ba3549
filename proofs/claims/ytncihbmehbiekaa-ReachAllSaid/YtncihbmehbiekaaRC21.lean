import Derived.Test.YtncihbmehbiekaaRC18
import Derived.Test.YtncihbmehbiekaaRC20
namespace Go.Proofs.Ytncihbmehbiekaa
set_option linter.unusedSimpArgs false
set_option linter.unusedVariables false
open Go.RowKit
set_option maxRecDepth 100000
set_option maxHeartbeats 8000000
theorem lotD_t2 (x : LotP) : List.take 2 (dV (lotD x)) = [V.d (.sl 1 (intD 0) (x.inn.map intD)), V.d (.c (.bool x.known))] := rfl
theorem subVs_app (ρ : Ren) {x' y' : List V} (h' : subVs ρ x' y') : ∀ {x y : List V}, subVs ρ x y → subVs ρ (x ++ x') (y ++ y')
  | [], [], _ => h'
  | a :: x, b :: y, h => by
    simp only [List.cons_append, subVs] at h ⊢
    exact ⟨h.1, subVs_app ρ h' h.2⟩
  | [], _ :: _, h => by simp only [subVs] at h
  | _ :: _, [], h => by simp only [subVs] at h
theorem subVs_set (ρ : Ren) {x y : List V} (h : subVs ρ x y) : ∀ (L : List LotP) (k : Nat), subVs ρ (((L.map lotD).map dV).set k x).flatten (((L.map lotD).map dV).set k y).flatten
  | [], _ => by simp [subVs]
  | a :: L, 0 => by
    simp only [List.map_cons, List.set_cons_zero, List.flatten_cons]
    exact subVs_app ρ (subVs_row2 ρ L) h
  | a :: L, k + 1 => by
    simp only [List.map_cons, List.set_cons_succ, List.flatten_cons]
    exact subVs_app ρ (subVs_set ρ h L k) (subVs_d ρ _)
theorem okF_pth {f : FlowP} (hf : OkF f) (hc : checkF f = 0) {s : Nat} (hs : (s : Int) < f.senders) {e : Int} (he : e ∈ endS f s) : OkF (pthF f s e) := by
  refine ⟨hf.s, by rw [show (pthF f s e).lots.length = f.lots.length from pthL_len _ _ _ _]; exact hf.l, fun y hy => ?_⟩
  obtain ⟨k, hk, rfl⟩ := List.getElem_of_mem hy
  have hk' : k < f.lots.length := by rw [← show (pthF f s e).lots.length = f.lots.length from pthL_len _ _ _ _]; exact hk
  have e1 : (pthF f s e).lots[k] = (pthF f s e).lots.getD k default := by rw [List.getD, List.getElem?_eq_getElem hk]; rfl
  rw [e1]
  rcases (pthF_fin hc hs he).lots k hk' with h | ⟨_, _, h1, h2⟩
  · rw [h]; exact hf.at k
  · have hx := hf.at k
    have hl := hx.li
    exact ⟨by rw [h1]; exact hx.inn, fun n hn => by have := h2.2.2 n hn; rw [h1] at this; omega, by rw [h1]; exact hx.li, by rw [h2.1, h1]; exact hx.li⟩
theorem wlaw7_spec (f : FlowP) (a : Int) (hf : OkF f) (ha : 0 ≤ a ∧ a ≤ 255) : Spec Try.prog 7 [.agg (flowD f), .one (.c (.int .u8 a))] (.r1 (aB true)) := by
  refine spec_of T_ok Try.func7 (by dsimp only [Try.f7]) rfl rfl (by simp) fun w F => ?_
  have hfl := hf.l
  have hV := wvalid_spec f hf
  cases hv : validW f with
  | false =>
    rw [hv] at hV
    repeat' (first
      | (with_reducible refine aw_seq ?_)
      | ((with_reducible refine twoG_intro ?_ ?_) <;> intro hTw <;> first | (exact Bool.noConfusion hTw) | ((try simp only [hTw, Bool.not_true, Bool.not_false, Bool.true_and, Bool.false_and, Bool.and_true, Bool.and_false, Bool.true_or, Bool.false_or, Bool.or_true, Bool.or_false]); (first | (guard_hyp hTw : true = true; clear hTw) | (guard_hyp hTw : false = false; clear hTw) | (revert hTw; intro _))))
      | ((with_reducible refine two_intro ?_ ?_) <;> intro hTw <;> first | (exact Bool.noConfusion hTw) | ((first | (guard_hyp hTw : true = true; clear hTw) | (guard_hyp hTw : false = false; clear hTw) | (revert hTw; intro _))))
      | ((with_reducible refine And.intro ?_ ?_); (focus (first | omega | rfl | decide | grind)))
      | (with_reducible refine aw_block ?_)
      | (with_reducible refine aw_scope ?_)
      | ((first
          | ((with_reducible refine aw_regionA T_ok ?_ ?_); (focus kernel_rfl))
          | ((with_reducible refine aw_drawnA T_ok ?_ ?_ ?_ ?_); (focus kernel_rfl); (focus kernel_rfl); (focus (decide +kernel)))
          | ((with_reducible refine aw_drawnF T_ok ?_ ?_ ?_ ?_); (focus kernel_rfl); (focus kernel_rfl); (focus (decide +kernel)))
          | ((with_reducible refine callK_intro (wsane_spec) (by with_unfolding_all rfl) ?_ ?_); (focus kernel_rfl))
          | ((with_reducible refine callI_spec (wsane_spec) (by with_unfolding_all rfl) ?_ ?_ ?_); (focus kernel_rfl); (focus kernel_rfl))
          | ((with_reducible refine callK_intro (hV) (by with_unfolding_all rfl) ?_ ?_); (focus kernel_rfl))
          | ((with_reducible refine callI_spec (hV) (by with_unfolding_all rfl) ?_ ?_ ?_); (focus kernel_rfl); (focus kernel_rfl))
          | (with_reducible refine aw_label ?_)
          | ((with_reducible refine aw_rfM ?_ ?_); (focus kernel_rfl))
          | (with_reducible refine aw_skip ?_)
          | (with_reducible refine aw_exit ?_)
          | ((with_reducible refine aw_condM ?_ ?_); (focus kernel_rfl))
          | (with_reducible refine aw_ret ?_)
        ); simp only [↓avP, avQ, if_true, if_false, forall_const, beq_self_eq_true, eq_self, ne_eq, implies_true, reduceIte, Nat.reduceEqDiff, Nat.reduceAdd, Nat.reduceSub, Int.reduceToNat, Nat.reduceLeDiff, Nat.reduceLT, reduceCtorEq, Int.reduceEq, retQ, retL, resV, RetV, RetOk, SubL, intD_B, u8D_B, lotD_B, flowD_B, snocI, snocL, snocW, lotD_t1, lotD_t2, row_get, row_set1, intD_drop, lotr_get, lotr_drop, lotr_set, fl_t1, fl_d2, ty_3, ty_5, ty_42, ty_27, ty_4, ty_24, ty_40, ty_22, ty_31, issD_get]; try simp (disch := omega) only [av_w, av_t1, av_tp, Int.toNat_natCast]))
    all_goals exact Sub.refl _
  | true =>
  rw [hv] at hV
  have hc := (validW_check hv).1
  obtain ⟨z1, z2, z3, z4, z5⟩ := checkF_zero hc
  by_cases hs0 : f.senders = 0
  · have hd : (f.senders == 0) = true := by rw [hs0]; rfl
    repeat' (first
      | (with_reducible refine aw_seq ?_)
      | ((with_reducible refine twoG_intro ?_ ?_) <;> intro hTw <;> first | (exact Bool.noConfusion hTw) | ((try simp only [hTw, Bool.not_true, Bool.not_false, Bool.true_and, Bool.false_and, Bool.and_true, Bool.and_false, Bool.true_or, Bool.false_or, Bool.or_true, Bool.or_false]); (first | (guard_hyp hTw : true = true; clear hTw) | (guard_hyp hTw : false = false; clear hTw) | (revert hTw; intro _))))
      | ((with_reducible refine two_intro ?_ ?_) <;> intro hTw <;> first | (exact Bool.noConfusion hTw) | ((first | (guard_hyp hTw : true = true; clear hTw) | (guard_hyp hTw : false = false; clear hTw) | (revert hTw; intro _))))
      | ((with_reducible refine And.intro ?_ ?_); (focus (first | omega | rfl | decide | grind)))
      | (with_reducible refine aw_block ?_)
      | (with_reducible refine aw_scope ?_)
      | ((first
          | ((with_reducible refine aw_regionA T_ok ?_ ?_); (focus kernel_rfl))
          | ((with_reducible refine aw_drawnA T_ok ?_ ?_ ?_ ?_); (focus kernel_rfl); (focus kernel_rfl); (focus (decide +kernel)))
          | ((with_reducible refine aw_drawnF T_ok ?_ ?_ ?_ ?_); (focus kernel_rfl); (focus kernel_rfl); (focus (decide +kernel)))
          | ((with_reducible refine callK_intro (wsane_spec) (by with_unfolding_all rfl) ?_ ?_); (focus kernel_rfl))
          | ((with_reducible refine callI_spec (wsane_spec) (by with_unfolding_all rfl) ?_ ?_ ?_); (focus kernel_rfl); (focus kernel_rfl))
          | ((with_reducible refine callK_intro (hV) (by with_unfolding_all rfl) ?_ ?_); (focus kernel_rfl))
          | ((with_reducible refine callI_spec (hV) (by with_unfolding_all rfl) ?_ ?_ ?_); (focus kernel_rfl); (focus kernel_rfl))
          | (with_reducible refine aw_label ?_)
          | ((with_reducible refine aw_rfM ?_ ?_); (focus kernel_rfl))
          | (with_reducible refine aw_skip ?_)
          | (with_reducible refine aw_exit ?_)
          | ((with_reducible refine aw_condM ?_ ?_); (focus kernel_rfl))
          | (with_reducible refine aw_ret ?_)
        ); simp only [↓avP, avQ, if_true, if_false, forall_const, beq_self_eq_true, eq_self, ne_eq, implies_true, reduceIte, Nat.reduceEqDiff, Nat.reduceAdd, Nat.reduceSub, Int.reduceToNat, Nat.reduceLeDiff, Nat.reduceLT, reduceCtorEq, Int.reduceEq, retQ, retL, resV, RetV, RetOk, SubL, intD_B, u8D_B, lotD_B, flowD_B, snocI, snocL, snocW, lotD_t1, lotD_t2, row_get, row_set1, intD_drop, lotr_get, lotr_drop, lotr_set, fl_t1, fl_d2, ty_3, ty_5, ty_42, ty_27, ty_4, ty_24, ty_40, ty_22, ty_31, issD_get, hd]; try simp (disch := omega) only [av_w, av_t1, av_tp, Int.toNat_natCast]))
    all_goals exact Sub.refl _
  have hd0 : (f.senders == 0) = false := by rw [beq_eq_false_iff_ne]; exact hs0
  obtain ⟨N, hN⟩ : ∃ N : Nat, f.senders = N := ⟨f.senders.toNat, by omega⟩
  obtain ⟨s, hse⟩ : ∃ s, s = a.toNat % N := ⟨_, rfl⟩
  have hsN : s < N := by rw [hse]; exact Nat.mod_lt _ (by omega)
  have hst : (IntKind.i64.wrap a).tmod f.senders = (s : Int) := by
    rw [av_w (by omega), hse, hN, Int.tmod_eq_emod_of_nonneg (by omega), Int.natCast_emod]
    congr 1; omega
  have h1 := ends_ok hf hc hN hsN
  have hsome := ne0 (endS_some (f := f) hc s (by omega))
  have hll : ((endS f s).length : Int) ≤ f.senders := by
    rw [← endsF_len hc]
    exact Int.ofNat_le.2 (List.length_filter_le _ _)
  have hpath := fun {e : Int} (he : e ∈ endS f s) => wpath_spec f s e hf hc (by omega) he
  have hpend := fun {e : Int} (he : e ∈ endS f s) => pthF_ends hc (s := s) (by omega) he
  have hpfin := fun {e : Int} (he : e ∈ endS f s) => pthF_fin hc (s := s) (by omega) he
  have hqp := fun {e : Int} (he : e ∈ endS f s) {k : Nat} (hk : k < f.lots.length) => qP hc (s := s) (by omega) he hk
  obtain ⟨E, hE⟩ : ∃ E, E = endS f s := ⟨_, rfl⟩
  simp only [← hE] at h1 hsome hll hpath hpend hpfin hqp
  have hll2 : decide ((E.length : Int) > f.senders) = false := decide_eq_false (by omega)
  repeat' (first
    | (with_reducible refine aw_seq ?_)
    | ((with_reducible refine twoG_intro ?_ ?_) <;> intro hTw <;> first | (exact Bool.noConfusion hTw) | ((try simp only [hTw, Bool.not_true, Bool.not_false, Bool.true_and, Bool.false_and, Bool.and_true, Bool.and_false, Bool.true_or, Bool.false_or, Bool.or_true, Bool.or_false]); (first | (guard_hyp hTw : true = true; clear hTw) | (guard_hyp hTw : false = false; clear hTw) | (revert hTw; intro _))))
    | ((with_reducible refine two_intro ?_ ?_) <;> intro hTw <;> first | (exact Bool.noConfusion hTw) | ((first | (guard_hyp hTw : true = true; clear hTw) | (guard_hyp hTw : false = false; clear hTw) | (revert hTw; intro _))))
    | ((with_reducible refine And.intro ?_ ?_); (focus (first | omega | rfl | decide | grind)))
    | (with_reducible refine aw_block ?_)
    | (with_reducible refine aw_scope ?_)
    | ((first
        | ((with_reducible refine aw_regionA T_ok ?_ ?_); (focus kernel_rfl))
        | ((with_reducible refine aw_drawnA T_ok ?_ ?_ ?_ ?_); (focus kernel_rfl); (focus kernel_rfl); (focus (decide +kernel)))
        | ((with_reducible refine aw_drawnF T_ok ?_ ?_ ?_ ?_); (focus kernel_rfl); (focus kernel_rfl); (focus (decide +kernel)))
        | ((with_reducible refine callK_intro (wsane_spec) (by with_unfolding_all rfl) ?_ ?_); (focus kernel_rfl))
        | ((with_reducible refine callI_spec (wsane_spec) (by with_unfolding_all rfl) ?_ ?_ ?_); (focus kernel_rfl); (focus kernel_rfl))
        | ((with_reducible refine callK_intro (hV) (by with_unfolding_all rfl) ?_ ?_); (focus kernel_rfl))
        | ((with_reducible refine callI_spec (hV) (by with_unfolding_all rfl) ?_ ?_ ?_); (focus kernel_rfl); (focus kernel_rfl))
        | ((with_reducible refine callK_intro (h1) (by with_unfolding_all rfl) ?_ ?_); (focus kernel_rfl))
        | ((with_reducible refine callI_spec (h1) (by with_unfolding_all rfl) ?_ ?_ ?_); (focus kernel_rfl); (focus kernel_rfl))
        | (with_reducible refine aw_label ?_)
        | ((with_reducible refine aw_rfM ?_ ?_); (focus kernel_rfl))
        | (with_reducible refine aw_skip ?_)
        | (with_reducible refine aw_exit ?_)
        | ((with_reducible refine aw_condM ?_ ?_); (focus kernel_rfl))
        | (with_reducible refine aw_ret ?_)
      ); simp only [↓avP, avQ, if_true, if_false, forall_const, beq_self_eq_true, eq_self, ne_eq, implies_true, reduceIte, Nat.reduceEqDiff, Nat.reduceAdd, Nat.reduceSub, Int.reduceToNat, Nat.reduceLeDiff, Nat.reduceLT, reduceCtorEq, Int.reduceEq, retQ, retL, resV, RetV, RetOk, SubL, intD_B, u8D_B, lotD_B, flowD_B, snocI, snocL, snocW, lotD_t1, lotD_t2, row_get, row_set1, intD_drop, lotr_get, lotr_drop, lotr_set, fl_t1, fl_d2, ty_3, ty_5, ty_42, ty_27, ty_4, ty_24, ty_40, ty_22, ty_31, issD_get, hd0, hst, hsome, hll2]; try simp (disch := omega) only [av_w, av_t1, av_tp, Int.toNat_natCast]))
  refine aw_loopI (fun m : Nat => ⟨[(2, .ptr 0 0), (5, vI s), (54, vIs E), (55, vI E.length), (56, vI m)], [(0, .cells 24 (dV (flowD f)))], 1⟩)
    (fun m => m ≤ E.length) (fun m => E.length - m) 0 (Nat.zero_le _) (wk_of [(0, some 0)] rfl rfl ?_ ?_) ?_
  · simp only [wkT, wkB, wkB1, subV, subVs, subD, subB, lkN_n, lkN_c, lkT_n, lkT_c, lkB_n, lkB_c, if_true, if_false, reduceIte, Nat.reduceEqDiff, true_and, and_true, and_self, inT, ofA]
    (repeat' (first | exact trivial | rfl | exact rfl | exact subVs_d _ _ | exact subVs_dm _ _ | exact subD_refl _ | refine And.intro ?_ ?_))
  · simp only [wkT, wkB, wkB1, subV, subVs, subD, subB, lkN_n, lkN_c, lkT_n, lkT_c, lkB_n, lkB_c, if_true, if_false, reduceIte, Nat.reduceEqDiff, true_and, and_true, and_self, inT, ofA]
    (repeat' (first | exact trivial | rfl | exact rfl | exact subVs_d _ _ | exact subVs_dm _ _ | exact subD_refl _ | refine And.intro ?_ ?_))
  intro m hm
  rcases Nat.lt_or_ge m E.length with hml | hmg
  · have hd := ltd hml
    have hmem := getD_mem hml
    have h2 := hpath hmem
    have hpend := hpend hmem
    have hpfin := hpfin hmem
    have hqp := fun {k : Nat} (hk : k < f.lots.length) => hqp hmem hk
    have hpok := okF_pth hf hc (s := s) (by omega) (show E.getD m 0 ∈ endS f s by rw [← hE]; exact hmem)
    obtain ⟨e, he⟩ : ∃ e, e = E.getD m 0 := ⟨_, rfl⟩
    simp only [← he] at h2 hpend hpfin hqp hpok
    have hlI := rvL_len (inQ' f s e) f.lots.length 0
    have hlO := rvL_len (outQ' f s e) f.lots.length 0
    have hgI := fun {k : Nat} (h : k < f.lots.length) => rvL_get (inQ' f s e) h
    have hgO := fun {k : Nat} (h : k < f.lots.length) => rvL_get (outQ' f s e) h
    obtain ⟨I, hI⟩ : ∃ I, I = rvL (inQ' f s e) f.lots.length 0 := ⟨_, rfl⟩
    obtain ⟨O, hO⟩ : ∃ O, O = rvL (outQ' f s e) f.lots.length 0 := ⟨_, rfl⟩
    simp only [← hI, ← hO] at h2 hlI hlO hgI hgO
    repeat' (first
      | (with_reducible refine aw_seq ?_)
      | ((with_reducible refine twoG_intro ?_ ?_) <;> intro hTw <;> first | (exact Bool.noConfusion hTw) | ((try simp only [hTw, Bool.not_true, Bool.not_false, Bool.true_and, Bool.false_and, Bool.and_true, Bool.and_false, Bool.true_or, Bool.false_or, Bool.or_true, Bool.or_false]); (first | (guard_hyp hTw : true = true; clear hTw) | (guard_hyp hTw : false = false; clear hTw) | (revert hTw; intro _))))
      | ((with_reducible refine two_intro ?_ ?_) <;> intro hTw <;> first | (exact Bool.noConfusion hTw) | ((first | (guard_hyp hTw : true = true; clear hTw) | (guard_hyp hTw : false = false; clear hTw) | (revert hTw; intro _))))
      | ((with_reducible refine And.intro ?_ ?_); (focus (first | omega | rfl | decide | grind)))
      | (with_reducible refine aw_block ?_)
      | (with_reducible refine aw_scope ?_)
      | ((first
          | ((with_reducible refine aw_regionA T_ok ?_ ?_); (focus kernel_rfl))
          | ((with_reducible refine aw_drawnA T_ok ?_ ?_ ?_ ?_); (focus kernel_rfl); (focus kernel_rfl); (focus (decide +kernel)))
          | ((with_reducible refine aw_drawnF T_ok ?_ ?_ ?_ ?_); (focus kernel_rfl); (focus kernel_rfl); (focus (decide +kernel)))
          | ((with_reducible refine callK_intro (h2) (by with_unfolding_all rfl) ?_ ?_); (focus kernel_rfl))
          | ((with_reducible refine callI_spec (h2) (by with_unfolding_all rfl) ?_ ?_ ?_); (focus kernel_rfl); (focus kernel_rfl))
          | ((with_reducible apply callI_in T_ok Try.func24); (focus (dsimp only [Try.f24])); (focus rfl); (focus rfl); (focus kernel_rfl); (focus exact of_decide_eq_true (by kernel_rfl)); (focus kernel_rfl); (focus kernel_rfl); intro _)
          | (with_reducible refine aw_label ?_)
          | ((with_reducible refine aw_rfM ?_ ?_); (focus kernel_rfl))
          | (with_reducible refine aw_skip ?_)
          | (with_reducible refine aw_exit ?_)
          | ((with_reducible refine aw_condM ?_ ?_); (focus kernel_rfl))
          | (with_reducible refine aw_ret ?_)
        ); simp only [↓avP, avQ, if_true, if_false, forall_const, beq_self_eq_true, eq_self, ne_eq, implies_true, reduceIte, Nat.reduceEqDiff, Nat.reduceAdd, Nat.reduceSub, Int.reduceToNat, Nat.reduceLeDiff, Nat.reduceLT, reduceCtorEq, Int.reduceEq, retQ, retL, resV, RetV, RetOk, SubL, intD_B, u8D_B, lotD_B, flowD_B, snocI, snocL, snocW, lotD_t1, lotD_t2, row_get, row_set1, intD_drop, lotr_get, lotr_drop, lotr_set, fl_t1, fl_d2, ty_3, ty_5, ty_42, ty_27, ty_4, ty_24, ty_40, ty_22, ty_31, issD_get, hd, ← he]; try simp (disch := omega) only [av_w, av_t1, av_tp, Int.toNat_natCast]))
    refine aw_nilC 3 1 40 3 (dV (lotD default)) rfl rfl ?_
    refine aw_loopI (fun k : Nat => ⟨[(1, .d (.c (.slice none 0 0))), (2, .ptr 1 0), (4, .ptr 2 0), (5, .ptr 3 0), (6, vI (atN f k)), (16, .d (.sl 3 (lotD default) (f.lots.map lotD))), (17, vI f.lots.length), (18, vI k), (98, .ptr 0 0), (101, vI s), (105, vI e), (106, vIs I), (107, vIs O), (150, vIs E), (151, vI E.length), (152, vI m)],
        [(4, .row 40 3 (dV (lotD default)) (((wayA f [] k).map lotD).map dV)), (3, .cells 24 [vI f.senders, .mo 4]), (2, .cells 24 [vI 0, .d (.c (.slice none 0 0))]), (1, .cells 24 (dV (flowD f))), (0, .cells 24 (dV (flowD f)))], 5⟩)
      (fun k => k ≤ f.lots.length) (fun k => f.lots.length - k) 0 (Nat.zero_le _) (wk_of [(0, some 0), (1, some 1), (2, some 2), (3, some 3), (4, some 4)] rfl rfl ?_ ?_) ?_
    · simp only [wkT, wkB, wkB1, subV, subVs, subD, subB, lkN_n, lkN_c, lkT_n, lkT_c, lkB_n, lkB_c, if_true, if_false, reduceIte, Nat.reduceEqDiff, true_and, and_true, and_self, inT, ofA]
      (repeat' (first | exact trivial | rfl | exact rfl | exact subVs_d _ _ | exact subVs_dm _ _ | exact subD_refl _ | refine And.intro ?_ ?_))
    · simp only [wkT, wkB, wkB1, subV, subVs, subD, subB, lkN_n, lkN_c, lkT_n, lkT_c, lkB_n, lkB_c, if_true, if_false, reduceIte, Nat.reduceEqDiff, true_and, and_true, and_self, inT, ofA]
      (repeat' (first | exact trivial | rfl | exact rfl | exact subVs_d _ _ | exact subVs_dm _ _ | exact subD_refl _ | refine And.intro ?_ ?_))
    intro k hk
    have has := wayA_succ f [] k
    have hal := wayA_len f [] k
    have han := atN_le f k hk
    have hat : atN f (k + 1) = atN f k + (if (f.lots.getD k default).known = true then 0 else (f.lots.getD k default).inn.length) := rfl
    obtain ⟨W, hW⟩ : ∃ W, W = wayA f [] k := ⟨_, rfl⟩
    rw [← hW] at has hal ⊢
    rcases Nat.lt_or_ge k f.lots.length with hlt | hge
    · have hd := ltd hlt
      have hb1 := befF_succ hlt
      have hb2 := befF_mono (f := f) (k := k + 1) (by omega)
      have hb3 := befF_mono (f := f) (k := k) (by omega)
      have hok := hf.at k
      obtain ⟨x, hx⟩ : ∃ x, x = f.lots.getD k default := ⟨_, rfl⟩
      obtain ⟨a, ha⟩ : ∃ a, a = atN f k := ⟨_, rfl⟩
      rw [← hx] at hb1 hok has hat
      rw [← ha] at has hat han ⊢
      cases hkn : x.known with
      | true =>
        rw [hkn, if_pos rfl] at hat
        rw [show wayL [] a x = x by rw [wayL, if_pos hkn]] at has
        repeat' (first
          | (with_reducible refine aw_seq ?_)
          | ((with_reducible refine twoG_intro ?_ ?_) <;> intro hTw <;> first | (exact Bool.noConfusion hTw) | ((try simp only [hTw, Bool.not_true, Bool.not_false, Bool.true_and, Bool.false_and, Bool.and_true, Bool.and_false, Bool.true_or, Bool.false_or, Bool.or_true, Bool.or_false]); (first | (guard_hyp hTw : true = true; clear hTw) | (guard_hyp hTw : false = false; clear hTw) | (revert hTw; intro _))))
          | ((with_reducible refine two_intro ?_ ?_) <;> intro hTw <;> first | (exact Bool.noConfusion hTw) | ((first | (guard_hyp hTw : true = true; clear hTw) | (guard_hyp hTw : false = false; clear hTw) | (revert hTw; intro _))))
          | ((with_reducible refine And.intro ?_ ?_); (focus (first | omega | rfl | decide | grind)))
          | (with_reducible refine aw_block ?_)
          | (with_reducible refine aw_scope ?_)
          | ((first
              | ((with_reducible refine aw_regionA T_ok ?_ ?_); (focus kernel_rfl))
              | ((with_reducible refine aw_drawnA T_ok ?_ ?_ ?_ ?_); (focus kernel_rfl); (focus kernel_rfl); (focus (decide +kernel)))
              | ((with_reducible refine aw_drawnF T_ok ?_ ?_ ?_ ?_); (focus kernel_rfl); (focus kernel_rfl); (focus (decide +kernel)))
              | (with_reducible refine aw_label ?_)
              | ((with_reducible refine aw_rfM ?_ ?_); (focus kernel_rfl))
              | (with_reducible refine aw_skip ?_)
              | (with_reducible refine aw_exit ?_)
              | ((with_reducible refine aw_condM ?_ ?_); (focus kernel_rfl))
              | (with_reducible refine aw_ret ?_)
            ); simp only [↓avP, avQ, if_true, if_false, forall_const, beq_self_eq_true, eq_self, ne_eq, implies_true, reduceIte, Nat.reduceEqDiff, Nat.reduceAdd, Nat.reduceSub, Int.reduceToNat, Nat.reduceLeDiff, Nat.reduceLT, reduceCtorEq, Int.reduceEq, retQ, retL, resV, RetV, RetOk, SubL, intD_B, u8D_B, lotD_B, flowD_B, snocI, snocL, snocW, lotD_t1, lotD_t2, row_get, row_set1, intD_drop, lotr_get, lotr_drop, lotr_set, fl_t1, fl_d2, ty_3, ty_5, ty_42, ty_27, ty_4, ty_24, ty_40, ty_22, ty_31, issD_get, hd, ← hx, hkn]; try simp (disch := omega) only [av_w, av_t1, av_tp, Int.toNat_natCast]))
        refine ⟨k + 1, by omega, by dsimp only; omega, wk_of [(0, some 0), (1, some 1), (2, some 2), (3, some 3), (4, some 7)] rfl rfl ?_ ?_⟩
        · simp only [wkT, wkB, wkB1, subV, subVs, subD, subB, lkN_n, lkN_c, lkT_n, lkT_c, lkB_n, lkB_c, if_true, if_false, reduceIte, Nat.reduceEqDiff, true_and, and_true, and_self, inT, ofA]
          rw [hat]
          (repeat' (first | exact trivial | rfl | exact rfl | exact subVs_d _ _ | exact subVs_dm _ _ | exact subD_refl _ | refine And.intro ?_ ?_))
        · simp only [wkT, wkB, wkB1, subV, subVs, subD, subB, lkN_n, lkN_c, lkT_n, lkT_c, lkB_n, lkB_c, if_true, if_false, reduceIte, Nat.reduceEqDiff, true_and, and_true, and_self, inT, ofA]
          rw [has]
          (repeat' (first | ((exact subVs_row2 _ _)) | exact trivial | rfl | exact rfl | exact subVs_d _ _ | exact subVs_dm _ _ | exact subD_refl _ | refine And.intro ?_ ?_))
      | false =>
        rw [hkn, if_neg (by simp)] at hat
        have hwl : wayL [] a x = ⟨x.inn, true, rngI x.inn.length⟩ := by rw [wayL, if_neg (by rw [hkn]; simp), shufI_nil _ _ _ (Nat.le_refl _)]
        obtain ⟨n, hn⟩ : ∃ n, n = x.inn.length := ⟨_, rfl⟩
        have hrep := rep_row n
        rw [fillI_zero] at hrep
        rw [← hn] at hwl hat hb1
        repeat' (first
          | (with_reducible refine aw_seq ?_)
          | ((with_reducible refine twoG_intro ?_ ?_) <;> intro hTw <;> first | (exact Bool.noConfusion hTw) | ((try simp only [hTw, Bool.not_true, Bool.not_false, Bool.true_and, Bool.false_and, Bool.and_true, Bool.and_false, Bool.true_or, Bool.false_or, Bool.or_true, Bool.or_false]); (first | (guard_hyp hTw : true = true; clear hTw) | (guard_hyp hTw : false = false; clear hTw) | (revert hTw; intro _))))
          | ((with_reducible refine two_intro ?_ ?_) <;> intro hTw <;> first | (exact Bool.noConfusion hTw) | ((first | (guard_hyp hTw : true = true; clear hTw) | (guard_hyp hTw : false = false; clear hTw) | (revert hTw; intro _))))
          | ((with_reducible refine And.intro ?_ ?_); (focus (first | omega | rfl | decide | grind)))
          | (with_reducible refine aw_block ?_)
          | (with_reducible refine aw_scope ?_)
          | ((first
              | ((with_reducible refine aw_regionA T_ok ?_ ?_); (focus kernel_rfl))
              | ((with_reducible refine aw_drawnT (id := 7) 5 5 T_ok ?_ ?_ ?_ ?_ ?_); (focus kernel_rfl); (focus kernel_rfl); (focus (decide +kernel)); (focus kernel_rfl))
              | ((with_reducible refine aw_drawnA T_ok ?_ ?_ ?_ ?_); (focus kernel_rfl); (focus kernel_rfl); (focus (decide +kernel)))
              | ((with_reducible refine aw_drawnF T_ok ?_ ?_ ?_ ?_); (focus kernel_rfl); (focus kernel_rfl); (focus (decide +kernel)))
              | (with_reducible refine fin2_intro ?_)
              | (with_reducible refine aw_label ?_)
              | ((with_reducible refine aw_rfM ?_ ?_); (focus kernel_rfl))
              | (with_reducible refine aw_skip ?_)
              | (with_reducible refine aw_exit ?_)
              | ((with_reducible refine aw_condM ?_ ?_); (focus kernel_rfl))
              | (with_reducible refine aw_ret ?_)
            ); simp only [↓avP, avQ, if_true, if_false, forall_const, beq_self_eq_true, eq_self, ne_eq, implies_true, reduceIte, Nat.reduceEqDiff, Nat.reduceAdd, Nat.reduceSub, Int.reduceToNat, Nat.reduceLeDiff, Nat.reduceLT, reduceCtorEq, Int.reduceEq, ↓earlyK.eq_def, tailX, Nat.reduceBEq, retQ, retL, resV, RetV, RetOk, SubL, intD_B, u8D_B, lotD_B, flowD_B, snocI, snocL, snocW, lotD_t1, lotD_t2, row_get, row_set1, intD_drop, lotr_get, lotr_drop, lotr_set, fl_t1, fl_d2, ty_3, ty_5, ty_42, ty_27, ty_4, ty_24, ty_40, ty_22, ty_31, issD_get, hd, ← hx, hkn, ← hn, hrep]; try simp (disch := omega) only [av_w, av_t1, av_tp, Int.toNat_natCast]))
        refine aw_loopI (fun i : Nat => ⟨[(1, .d (.c (.slice none 0 0))), (2, .ptr 1 0), (4, .ptr 2 0), (5, .ptr 3 0), (6, vI a), (16, .d (.sl 3 (lotD default) (f.lots.map lotD))), (17, vI f.lots.length), (18, vI k), (33, vI n), (34, vI i), (8, .ptr 5 0), (98, .ptr 0 0), (101, vI s), (105, vI e), (106, vIs I), (107, vIs O), (150, vIs E), (151, vI E.length), (152, vI m)],
          [(6, .row 3 1 (dV (intD 0)) (((fillI n i).map intD).map dV)), (5, .cells 40 [.d (.sl 1 (intD 0) (x.inn.map intD)), vB true, .mo 6]), (4, .row 40 3 (dV (lotD default)) (((W).map lotD).map dV)), (3, .cells 24 [vI f.senders, .mo 4]), (2, .cells 24 [vI 0, .d (.c (.slice none 0 0))]), (1, .cells 24 (dV (flowD f))), (0, .cells 24 (dV (flowD f)))], 7⟩)
          (fun i => i ≤ n) (fun i => n - i) 0 (Nat.zero_le _) (wk_of [(0, some 0), (1, some 1), (2, some 2), (3, some 3), (4, some 4), (5, some 5), (6, some 9)] rfl rfl ?_ ?_) ?_
        · simp only [wkT, wkB, wkB1, subV, subVs, subD, subB, lkN_n, lkN_c, lkT_n, lkT_c, lkB_n, lkB_c, if_true, if_false, reduceIte, Nat.reduceEqDiff, true_and, and_true, and_self, inT, ofA]
          (repeat' (first | ((exact congrArg (fun n => D.c (Value.int IntKind.i64 n)) (by rw [fillI_len]))) | exact trivial | rfl | exact rfl | exact subVs_d _ _ | exact subVs_dm _ _ | exact subD_refl _ | refine And.intro ?_ ?_))
        · simp only [wkT, wkB, wkB1, subV, subVs, subD, subB, lkN_n, lkN_c, lkT_n, lkT_c, lkB_n, lkB_c, if_true, if_false, reduceIte, Nat.reduceEqDiff, true_and, and_true, and_self, inT, ofA]
          (repeat' (first | ((exact subVs_row _ _)) | ((exact subVs_row2 _ _)) | exact trivial | rfl | exact rfl | exact subVs_d _ _ | exact subVs_dm _ _ | exact subD_refl _ | refine And.intro ?_ ?_))
        intro i hi
        have hfl2 := fillI_len n i
        have hfs := fillI_succ n i
        obtain ⟨L, hL⟩ : ∃ L, L = fillI n i := ⟨_, rfl⟩
        rw [← hL] at hfl2 hfs ⊢
        rcases Nat.lt_or_ge i n with hil | hig
        · have hd2 := ltd hil
          repeat' (first
            | (with_reducible refine aw_seq ?_)
            | ((with_reducible refine twoG_intro ?_ ?_) <;> intro hTw <;> first | (exact Bool.noConfusion hTw) | ((try simp only [hTw, Bool.not_true, Bool.not_false, Bool.true_and, Bool.false_and, Bool.and_true, Bool.and_false, Bool.true_or, Bool.false_or, Bool.or_true, Bool.or_false]); (first | (guard_hyp hTw : true = true; clear hTw) | (guard_hyp hTw : false = false; clear hTw) | (revert hTw; intro _))))
            | ((with_reducible refine two_intro ?_ ?_) <;> intro hTw <;> first | (exact Bool.noConfusion hTw) | ((first | (guard_hyp hTw : true = true; clear hTw) | (guard_hyp hTw : false = false; clear hTw) | (revert hTw; intro _))))
            | ((with_reducible refine And.intro ?_ ?_); (focus (first | omega | rfl | decide | grind)))
            | (with_reducible refine aw_block ?_)
            | (with_reducible refine aw_scope ?_)
            | ((first
                | ((with_reducible refine aw_regionA T_ok ?_ ?_); (focus kernel_rfl))
                | ((with_reducible refine aw_drawnA T_ok ?_ ?_ ?_ ?_); (focus kernel_rfl); (focus kernel_rfl); (focus (decide +kernel)))
                | ((with_reducible refine aw_drawnF T_ok ?_ ?_ ?_ ?_); (focus kernel_rfl); (focus kernel_rfl); (focus (decide +kernel)))
                | (with_reducible refine aw_label ?_)
                | ((with_reducible refine aw_rfM ?_ ?_); (focus kernel_rfl))
                | (with_reducible refine aw_skip ?_)
                | (with_reducible refine aw_exit ?_)
                | ((with_reducible refine aw_condM ?_ ?_); (focus kernel_rfl))
                | (with_reducible refine aw_ret ?_)
              ); simp only [↓avP, avQ, if_true, if_false, forall_const, beq_self_eq_true, eq_self, ne_eq, implies_true, reduceIte, Nat.reduceEqDiff, Nat.reduceAdd, Nat.reduceSub, Int.reduceToNat, Nat.reduceLeDiff, Nat.reduceLT, reduceCtorEq, Int.reduceEq, retQ, retL, resV, RetV, RetOk, SubL, intD_B, u8D_B, lotD_B, flowD_B, snocI, snocL, snocW, lotD_t1, lotD_t2, row_get, row_set1, intD_drop, lotr_get, lotr_drop, lotr_set, fl_t1, fl_d2, ty_3, ty_5, ty_42, ty_27, ty_4, ty_24, ty_40, ty_22, ty_31, issD_get, hd2]; try simp (disch := omega) only [av_w, av_t1, av_tp, Int.toNat_natCast]))
          refine ⟨i + 1, by omega, by dsimp only; omega, wk_of [(0, some 0), (1, some 1), (2, some 2), (3, some 3), (4, some 4), (5, some 5), (6, some 6)] rfl rfl ?_ ?_⟩
          · simp only [wkT, wkB, wkB1, subV, subVs, subD, subB, lkN_n, lkN_c, lkT_n, lkT_c, lkB_n, lkB_c, if_true, if_false, reduceIte, Nat.reduceEqDiff, true_and, and_true, and_self, inT, ofA]
            (repeat' (first | exact trivial | rfl | exact rfl | exact subVs_d _ _ | exact subVs_dm _ _ | exact subD_refl _ | refine And.intro ?_ ?_))
          · simp only [wkT, wkB, wkB1, subV, subVs, subD, subB, lkN_n, lkN_c, lkT_n, lkT_c, lkB_n, lkB_c, if_true, if_false, reduceIte, Nat.reduceEqDiff, true_and, and_true, and_self, inT, ofA]
            rw [hfs]
            (repeat' (first | ((exact subVs_row _ _)) | ((exact subVs_row2 _ _)) | exact trivial | rfl | exact rfl | exact subVs_d _ _ | exact subVs_dm _ _ | exact subD_refl _ | refine And.intro ?_ ?_))
        obtain rfl : i = n := by omega
        rw [fillI_all] at hL
        have hd2 := ged (Nat.le_refl i)
        repeat' (first
          | (with_reducible refine aw_seq ?_)
          | ((with_reducible refine twoG_intro ?_ ?_) <;> intro hTw <;> first | (exact Bool.noConfusion hTw) | ((try simp only [hTw, Bool.not_true, Bool.not_false, Bool.true_and, Bool.false_and, Bool.and_true, Bool.and_false, Bool.true_or, Bool.false_or, Bool.or_true, Bool.or_false]); (first | (guard_hyp hTw : true = true; clear hTw) | (guard_hyp hTw : false = false; clear hTw) | (revert hTw; intro _))))
          | ((with_reducible refine two_intro ?_ ?_) <;> intro hTw <;> first | (exact Bool.noConfusion hTw) | ((first | (guard_hyp hTw : true = true; clear hTw) | (guard_hyp hTw : false = false; clear hTw) | (revert hTw; intro _))))
          | ((with_reducible refine And.intro ?_ ?_); (focus (first | omega | rfl | decide | grind)))
          | (with_reducible refine aw_block ?_)
          | (with_reducible refine aw_scope ?_)
          | ((first
              | ((with_reducible refine aw_regionA T_ok ?_ ?_); (focus kernel_rfl))
              | ((with_reducible refine aw_drawnA T_ok ?_ ?_ ?_ ?_); (focus kernel_rfl); (focus kernel_rfl); (focus (decide +kernel)))
              | ((with_reducible refine aw_drawnF T_ok ?_ ?_ ?_ ?_); (focus kernel_rfl); (focus kernel_rfl); (focus (decide +kernel)))
              | (with_reducible refine aw_label ?_)
              | ((with_reducible refine aw_rfM ?_ ?_); (focus kernel_rfl))
              | (with_reducible refine aw_skip ?_)
              | (with_reducible refine aw_exit ?_)
              | ((with_reducible refine aw_condM ?_ ?_); (focus kernel_rfl))
              | (with_reducible refine aw_ret ?_)
            ); simp only [↓avP, avQ, if_true, if_false, forall_const, beq_self_eq_true, eq_self, ne_eq, implies_true, reduceIte, Nat.reduceEqDiff, Nat.reduceAdd, Nat.reduceSub, Int.reduceToNat, Nat.reduceLeDiff, Nat.reduceLT, reduceCtorEq, Int.reduceEq, retQ, retL, resV, RetV, RetOk, SubL, intD_B, u8D_B, lotD_B, flowD_B, snocI, snocL, snocW, lotD_t1, lotD_t2, row_get, row_set1, intD_drop, lotr_get, lotr_drop, lotr_set, fl_t1, fl_d2, ty_3, ty_5, ty_42, ty_27, ty_4, ty_24, ty_40, ty_22, ty_31, issD_get, hd2]; try simp (disch := omega) only [av_w, av_t1, av_tp, Int.toNat_natCast]))
        refine aw_loopI (fun j : Nat => ⟨[(1, .d (.c (.slice none 0 0))), (2, .ptr 1 0), (4, .ptr 2 0), (5, .ptr 3 0), (6, vI ((a + j : Nat) : Int)), (16, .d (.sl 3 (lotD default) (f.lots.map lotD))), (17, vI f.lots.length), (18, vI k), (45, vI i), (46, vI j), (8, .ptr 5 0), (98, .ptr 0 0), (101, vI s), (105, vI e), (106, vIs I), (107, vIs O), (150, vIs E), (151, vI E.length), (152, vI m)],
          [(6, .row 3 1 (dV (intD 0)) (((L).map intD).map dV)), (5, .cells 40 [.d (.sl 1 (intD 0) (x.inn.map intD)), vB true, .mo 6]), (4, .row 40 3 (dV (lotD default)) (((W).map lotD).map dV)), (3, .cells 24 [vI f.senders, .mo 4]), (2, .cells 24 [vI 0, .d (.c (.slice none 0 0))]), (1, .cells 24 (dV (flowD f))), (0, .cells 24 (dV (flowD f)))], 7⟩)
          (fun j => j ≤ i) (fun j => i - j) 0 (Nat.zero_le _) (wk_of [(0, some 0), (1, some 1), (2, some 2), (3, some 3), (4, some 4), (5, some 5), (6, some 6)] rfl rfl ?_ ?_) ?_
        · simp only [wkT, wkB, wkB1, subV, subVs, subD, subB, lkN_n, lkN_c, lkT_n, lkT_c, lkB_n, lkB_c, if_true, if_false, reduceIte, Nat.reduceEqDiff, true_and, and_true, and_self, inT, ofA]
          (repeat' (first | ((exact congrArg (fun n => D.c (Value.int IntKind.i64 n)) (by omega))) | exact trivial | rfl | exact rfl | exact subVs_d _ _ | exact subVs_dm _ _ | exact subD_refl _ | refine And.intro ?_ ?_))
        · simp only [wkT, wkB, wkB1, subV, subVs, subD, subB, lkN_n, lkN_c, lkT_n, lkT_c, lkB_n, lkB_c, if_true, if_false, reduceIte, Nat.reduceEqDiff, true_and, and_true, and_self, inT, ofA]
          (repeat' (first | ((exact subVs_row _ _)) | ((exact subVs_row2 _ _)) | exact trivial | rfl | exact rfl | exact subVs_d _ _ | exact subVs_dm _ _ | exact subD_refl _ | refine And.intro ?_ ?_))
        clear hfs
        intro j hj
        rcases Nat.lt_or_ge j i with hjl | hjg
        · have hd3 := ltd hjl
          have hd4 : decide (((a + j : Nat) : Int) < 0) = false := decide_eq_false (by omega)
          have hss : (L.set j (L.getD j 0)).set j (L.getD j 0) = L := by
            rw [List.set_set]
            refine List.ext_getElem? fun q => ?_
            by_cases hq : q = j
            · subst hq
              rw [List.getElem?_set_self (by omega), List.getD, List.getElem?_eq_getElem (by omega)]; rfl
            · rw [List.getElem?_set_ne (Ne.symm hq)]
          repeat' (first
            | (with_reducible refine aw_seq ?_)
            | ((with_reducible refine twoG_intro ?_ ?_) <;> intro hTw <;> first | (exact Bool.noConfusion hTw) | ((try simp only [hTw, Bool.not_true, Bool.not_false, Bool.true_and, Bool.false_and, Bool.and_true, Bool.and_false, Bool.true_or, Bool.false_or, Bool.or_true, Bool.or_false]); (first | (guard_hyp hTw : true = true; clear hTw) | (guard_hyp hTw : false = false; clear hTw) | (revert hTw; intro _))))
            | ((with_reducible refine two_intro ?_ ?_) <;> intro hTw <;> first | (exact Bool.noConfusion hTw) | ((first | (guard_hyp hTw : true = true; clear hTw) | (guard_hyp hTw : false = false; clear hTw) | (revert hTw; intro _))))
            | ((with_reducible refine And.intro ?_ ?_); (focus (first | omega | rfl | decide | grind)))
            | (with_reducible refine aw_block ?_)
            | (with_reducible refine aw_scope ?_)
            | ((first
                | ((with_reducible refine aw_regionA T_ok ?_ ?_); (focus kernel_rfl))
                | ((with_reducible refine aw_drawnL (id := 20) 17 6 [3,4,5,18] T_ok ?_ ?_ ?_ ?_ ?_); (focus kernel_rfl); (focus kernel_rfl); (focus (decide +kernel)); (focus kernel_rfl))
                | ((with_reducible refine aw_drawnA T_ok ?_ ?_ ?_ ?_); (focus kernel_rfl); (focus kernel_rfl); (focus (decide +kernel)))
                | ((with_reducible refine aw_drawnF T_ok ?_ ?_ ?_ ?_); (focus kernel_rfl); (focus kernel_rfl); (focus (decide +kernel)))
                | (with_reducible refine fin2_intro ?_)
                | (with_reducible refine aw_label ?_)
                | ((with_reducible refine aw_rfM ?_ ?_); (focus kernel_rfl))
                | (with_reducible refine aw_skip ?_)
                | (with_reducible refine aw_exit ?_)
                | ((with_reducible refine aw_condM ?_ ?_); (focus kernel_rfl))
                | (with_reducible refine aw_ret ?_)
              ); simp only [↓avP, avQ, if_true, if_false, forall_const, beq_self_eq_true, eq_self, ne_eq, implies_true, reduceIte, Nat.reduceEqDiff, Nat.reduceAdd, Nat.reduceSub, Int.reduceToNat, Nat.reduceLeDiff, Nat.reduceLT, reduceCtorEq, Int.reduceEq, ↓earlyR.eq_def, lateK.eq_def, tailX, Nat.reduceBEq, retQ, retL, resV, RetV, RetOk, SubL, intD_B, u8D_B, lotD_B, flowD_B, snocI, snocL, snocW, lotD_t1, lotD_t2, row_get, row_set1, intD_drop, lotr_get, lotr_drop, lotr_set, fl_t1, fl_d2, ty_3, ty_5, ty_42, ty_27, ty_4, ty_24, ty_40, ty_22, ty_31, issD_get, hd3, hd4, hfl2]; try simp (disch := omega) only [av_w, av_t1, av_tp, Int.toNat_natCast]))
          refine ⟨j + 1, by omega, by dsimp only; omega, wk_of [(0, some 0), (1, some 1), (2, some 2), (3, some 3), (4, some 4), (5, some 5), (6, some 6)] rfl rfl ?_ ?_⟩
          · simp only [wkT, wkB, wkB1, subV, subVs, subD, subB, lkN_n, lkN_c, lkT_n, lkT_c, lkB_n, lkB_c, if_true, if_false, reduceIte, Nat.reduceEqDiff, true_and, and_true, and_self, inT, ofA]
            (repeat' (first | ((exact congrArg (fun n => D.c (Value.int IntKind.i64 n)) (by omega))) | exact trivial | rfl | exact rfl | exact subVs_d _ _ | exact subVs_dm _ _ | exact subD_refl _ | refine And.intro ?_ ?_))
          · simp only [wkT, wkB, wkB1, subV, subVs, subD, subB, lkN_n, lkN_c, lkT_n, lkT_c, lkB_n, lkB_c, if_true, if_false, reduceIte, Nat.reduceEqDiff, true_and, and_true, and_self, inT, ofA]
            rw [hss]
            (repeat' (first | ((exact subVs_row _ _)) | ((exact subVs_row2 _ _)) | exact trivial | rfl | exact rfl | exact subVs_d _ _ | exact subVs_dm _ _ | exact subD_refl _ | refine And.intro ?_ ?_))
        obtain rfl : j = i := by omega
        have hd3 := ged (Nat.le_refl j)
        refine aw_frzD 6 (intD 0) (L.map intD) rfl rfl ?_
        simp only [frzS, frzM, frzK, frz1, frz2, frz_dV, List.map_cons, List.map_nil, setB, reduceIte, Nat.reduceEqDiff]
        rw [← hL] at hwl
        rw [hwl] at has
        repeat' (first
          | (with_reducible refine aw_seq ?_)
          | ((with_reducible refine twoG_intro ?_ ?_) <;> intro hTw <;> first | (exact Bool.noConfusion hTw) | ((try simp only [hTw, Bool.not_true, Bool.not_false, Bool.true_and, Bool.false_and, Bool.and_true, Bool.and_false, Bool.true_or, Bool.false_or, Bool.or_true, Bool.or_false]); (first | (guard_hyp hTw : true = true; clear hTw) | (guard_hyp hTw : false = false; clear hTw) | (revert hTw; intro _))))
          | ((with_reducible refine two_intro ?_ ?_) <;> intro hTw <;> first | (exact Bool.noConfusion hTw) | ((first | (guard_hyp hTw : true = true; clear hTw) | (guard_hyp hTw : false = false; clear hTw) | (revert hTw; intro _))))
          | ((with_reducible refine And.intro ?_ ?_); (focus (first | omega | rfl | decide | grind)))
          | (with_reducible refine aw_block ?_)
          | (with_reducible refine aw_scope ?_)
          | ((first
              | ((with_reducible refine aw_regionA T_ok ?_ ?_); (focus kernel_rfl))
              | ((with_reducible refine aw_drawnA T_ok ?_ ?_ ?_ ?_); (focus kernel_rfl); (focus kernel_rfl); (focus (decide +kernel)))
              | ((with_reducible refine aw_drawnF T_ok ?_ ?_ ?_ ?_); (focus kernel_rfl); (focus kernel_rfl); (focus (decide +kernel)))
              | (with_reducible refine aw_label ?_)
              | ((with_reducible refine aw_rfM ?_ ?_); (focus kernel_rfl))
              | (with_reducible refine aw_skip ?_)
              | (with_reducible refine aw_exit ?_)
              | ((with_reducible refine aw_condM ?_ ?_); (focus kernel_rfl))
              | (with_reducible refine aw_ret ?_)
            ); simp only [↓avP, avQ, if_true, if_false, forall_const, beq_self_eq_true, eq_self, ne_eq, implies_true, reduceIte, Nat.reduceEqDiff, Nat.reduceAdd, Nat.reduceSub, Int.reduceToNat, Nat.reduceLeDiff, Nat.reduceLT, reduceCtorEq, Int.reduceEq, retQ, retL, resV, RetV, RetOk, SubL, intD_B, u8D_B, lotD_B, flowD_B, snocI, snocL, snocW, lotD_t1, lotD_t2, row_get, row_set1, intD_drop, lotr_get, lotr_drop, lotr_set, fl_t1, fl_d2, ty_3, ty_5, ty_42, ty_27, ty_4, ty_24, ty_40, ty_22, ty_31, issD_get, hd3]; try simp (disch := omega) only [av_w, av_t1, av_tp, Int.toNat_natCast]))
        refine ⟨k + 1, by omega, by dsimp only; omega, wk_of [(0, some 0), (1, some 1), (2, some 2), (3, some 3), (4, some 8)] rfl rfl ?_ ?_⟩
        · simp only [wkT, wkB, wkB1, subV, subVs, subD, subB, lkN_n, lkN_c, lkT_n, lkT_c, lkB_n, lkB_c, if_true, if_false, reduceIte, Nat.reduceEqDiff, true_and, and_true, and_self, inT, ofA]
          rw [hat]
          (repeat' (first | exact trivial | rfl | exact rfl | exact subVs_d _ _ | exact subVs_dm _ _ | exact subD_refl _ | refine And.intro ?_ ?_))
        · simp only [wkT, wkB, wkB1, subV, subVs, subD, subB, lkN_n, lkN_c, lkT_n, lkT_c, lkB_n, lkB_c, if_true, if_false, reduceIte, Nat.reduceEqDiff, true_and, and_true, and_self, inT, ofA]
          have e := snocW W ⟨x.inn, true, L⟩
          change _ ++ [[V.d (D.sl 1 (intD 0) (List.map intD x.inn)), V.d (D.c (Value.bool true)), V.d (D.sl 1 (intD 0) (List.map intD L))]] = _ at e
          rw [has, e]
          (repeat' (first | ((exact subVs_row2 _ _)) | exact trivial | rfl | exact rfl | exact subVs_d _ _ | exact subVs_dm _ _ | exact subD_refl _ | refine And.intro ?_ ?_))
    obtain rfl : k = f.lots.length := by omega
    have hd := ged (Nat.le_refl f.lots.length)
    have hWi : W = pthL f (inQ' f s e) (outQ' f s e) 0 := by
      rw [← pthL_zero, ← wayF_nil, hW]; rfl
    rw [hWi]
    clear has hal han hat hW hWi
    repeat' (first
      | (with_reducible refine aw_seq ?_)
      | ((with_reducible refine twoG_intro ?_ ?_) <;> intro hTw <;> first | (exact Bool.noConfusion hTw) | ((try simp only [hTw, Bool.not_true, Bool.not_false, Bool.true_and, Bool.false_and, Bool.and_true, Bool.and_false, Bool.true_or, Bool.false_or, Bool.or_true, Bool.or_false]); (first | (guard_hyp hTw : true = true; clear hTw) | (guard_hyp hTw : false = false; clear hTw) | (revert hTw; intro _))))
      | ((with_reducible refine two_intro ?_ ?_) <;> intro hTw <;> first | (exact Bool.noConfusion hTw) | ((first | (guard_hyp hTw : true = true; clear hTw) | (guard_hyp hTw : false = false; clear hTw) | (revert hTw; intro _))))
      | ((with_reducible refine And.intro ?_ ?_); (focus (first | omega | rfl | decide | grind)))
      | (with_reducible refine aw_block ?_)
      | (with_reducible refine aw_scope ?_)
      | ((first
          | ((with_reducible refine aw_regionA T_ok ?_ ?_); (focus kernel_rfl))
          | ((with_reducible refine aw_drawnA T_ok ?_ ?_ ?_ ?_); (focus kernel_rfl); (focus kernel_rfl); (focus (decide +kernel)))
          | ((with_reducible refine aw_drawnF T_ok ?_ ?_ ?_ ?_); (focus kernel_rfl); (focus kernel_rfl); (focus (decide +kernel)))
          | (with_reducible refine aw_label ?_)
          | ((with_reducible refine aw_rfM ?_ ?_); (focus kernel_rfl))
          | (with_reducible refine aw_skip ?_)
          | (with_reducible refine aw_exit ?_)
          | ((with_reducible refine aw_condM ?_ ?_); (focus kernel_rfl))
          | (with_reducible refine aw_ret ?_)
        ); simp only [↓avP, avQ, if_true, if_false, forall_const, beq_self_eq_true, eq_self, ne_eq, implies_true, reduceIte, Nat.reduceEqDiff, Nat.reduceAdd, Nat.reduceSub, Int.reduceToNat, Nat.reduceLeDiff, Nat.reduceLT, reduceCtorEq, Int.reduceEq, retQ, retL, resV, RetV, RetOk, SubL, intD_B, u8D_B, lotD_B, flowD_B, snocI, snocL, snocW, lotD_t1, lotD_t2, row_get, row_set1, intD_drop, lotr_get, lotr_drop, lotr_set, fl_t1, fl_d2, ty_3, ty_5, ty_42, ty_27, ty_4, ty_24, ty_40, ty_22, ty_31, issD_get, hd]; try simp (disch := omega) only [av_w, av_t1, av_tp, Int.toNat_natCast]))
    refine aw_loopI (fun k : Nat => ⟨[(2, .ptr 0 0), (5, vI s), (9, vI e), (10, vIs I), (11, vIs O), (54, vIs E), (55, vI E.length), (56, vI m), (13, .ptr 2 0), (73, .d (.sl 3 (lotD default) (f.lots.map lotD))), (74, vI f.lots.length), (75, vI k)],
        [(2, .cells 24 [vI f.senders, .mo 1]), (1, .row 40 3 (dV (lotD default)) (((pthL f (inQ' f s e) (outQ' f s e) k).map lotD).map dV)), (0, .cells 24 (dV (flowD f)))], 3⟩)
      (fun k => k ≤ f.lots.length) (fun k => f.lots.length - k) 0 (Nat.zero_le _) (wk_of [(0, some 0), (1, some 4), (2, some 5)] rfl rfl ?_ ?_) ?_
    · simp only [wkT, wkB, wkB1, subV, subVs, subD, subB, lkN_n, lkN_c, lkT_n, lkT_c, lkB_n, lkB_c, if_true, if_false, reduceIte, Nat.reduceEqDiff, true_and, and_true, and_self, inT, ofA]
      (repeat' (first | exact trivial | rfl | exact rfl | exact subVs_d _ _ | exact subVs_dm _ _ | exact subD_refl _ | refine And.intro ?_ ?_))
    · simp only [wkT, wkB, wkB1, subV, subVs, subD, subB, lkN_n, lkN_c, lkT_n, lkT_c, lkB_n, lkB_c, if_true, if_false, reduceIte, Nat.reduceEqDiff, true_and, and_true, and_self, inT, ofA]
      (repeat' (first | ((exact subVs_row2 _ _)) | exact trivial | rfl | exact rfl | exact subVs_d _ _ | exact subVs_dm _ _ | exact subD_refl _ | refine And.intro ?_ ?_))
    intro k hk
    have hpl := pthL_len f (inQ' f s e) (outQ' f s e) k
    rcases Nat.lt_or_ge k f.lots.length with hlt | hge
    · have hd := ltd hlt
      have hgt := pthL_get (f := f) (I := inQ' f s e) (O := outQ' f s e) (k := k) hlt
      rw [if_neg (by omega)] at hgt
      have hset := pthL_set (f := f) (I := inQ' f s e) (O := outQ' f s e) hlt
      have hskip := pthL_skip (f := f) (I := inQ' f s e) (O := outQ' f s e) hlt
      have hxl : (f.lots.getD k default).inn.length ≤ 50000 := by
        have b1 := befF_succ hlt
        have b2 := befF_mono (f := f) (k := k + 1) (by omega)
        have b3 := befF_mono (f := f) (k := k) (by omega)
        omega
      have hgI := hgI hlt
      have hgO := hgO hlt
      have hqp := hqp hlt
      obtain ⟨x, hx⟩ : ∃ x, x = f.lots.getD k default := ⟨_, rfl⟩
      simp only [← hx] at hgt hset hskip hqp hxl
      obtain ⟨W, hW⟩ : ∃ W, W = pthL f (inQ' f s e) (outQ' f s e) k := ⟨_, rfl⟩
      rw [← hW] at hgt hset hskip hpl ⊢
      obtain ⟨i, hie⟩ : ∃ i, i = inQ' f s e k := ⟨_, rfl⟩
      obtain ⟨o, hoe⟩ : ∃ o, o = outQ' f s e k := ⟨_, rfl⟩
      rw [← hie] at hgI hset hskip hqp
      rw [← hoe] at hgO hset hskip hqp
      cases hkn : x.known with
      | true =>
        have hskip := hskip (by rw [swpF, idL, if_pos hkn, if_pos hkn])
        repeat' (first
          | (with_reducible refine aw_seq ?_)
          | ((with_reducible refine twoG_intro ?_ ?_) <;> intro hTw <;> first | (exact Bool.noConfusion hTw) | ((try simp only [hTw, Bool.not_true, Bool.not_false, Bool.true_and, Bool.false_and, Bool.and_true, Bool.and_false, Bool.true_or, Bool.false_or, Bool.or_true, Bool.or_false]); (first | (guard_hyp hTw : true = true; clear hTw) | (guard_hyp hTw : false = false; clear hTw) | (revert hTw; intro _))))
          | ((with_reducible refine two_intro ?_ ?_) <;> intro hTw <;> first | (exact Bool.noConfusion hTw) | ((first | (guard_hyp hTw : true = true; clear hTw) | (guard_hyp hTw : false = false; clear hTw) | (revert hTw; intro _))))
          | ((with_reducible refine And.intro ?_ ?_); (focus (first | omega | rfl | decide | grind)))
          | (with_reducible refine aw_block ?_)
          | (with_reducible refine aw_scope ?_)
          | ((first
              | ((with_reducible refine aw_regionA T_ok ?_ ?_); (focus kernel_rfl))
              | ((with_reducible refine aw_drawnA T_ok ?_ ?_ ?_ ?_); (focus kernel_rfl); (focus kernel_rfl); (focus (decide +kernel)))
              | ((with_reducible refine aw_drawnF T_ok ?_ ?_ ?_ ?_); (focus kernel_rfl); (focus kernel_rfl); (focus (decide +kernel)))
              | (with_reducible refine aw_label ?_)
              | ((with_reducible refine aw_rfM ?_ ?_); (focus kernel_rfl))
              | (with_reducible refine aw_skip ?_)
              | (with_reducible refine aw_exit ?_)
              | ((with_reducible refine aw_condM ?_ ?_); (focus kernel_rfl))
              | (with_reducible refine aw_ret ?_)
            ); simp only [↓avP, avQ, if_true, if_false, forall_const, beq_self_eq_true, eq_self, ne_eq, implies_true, reduceIte, Nat.reduceEqDiff, Nat.reduceAdd, Nat.reduceSub, Int.reduceToNat, Nat.reduceLeDiff, Nat.reduceLT, reduceCtorEq, Int.reduceEq, retQ, retL, resV, RetV, RetOk, SubL, intD_B, u8D_B, lotD_B, flowD_B, snocI, snocL, snocW, lotD_t1, lotD_t2, row_get, row_set1, intD_drop, lotr_get, lotr_drop, lotr_set, fl_t1, fl_d2, ty_3, ty_5, ty_42, ty_27, ty_4, ty_24, ty_40, ty_22, ty_31, issD_get, hd, ← hx, hkn]; try simp (disch := omega) only [av_w, av_t1, av_tp, Int.toNat_natCast]))
        refine ⟨k + 1, by omega, by dsimp only; omega, wk_of [(0, some 0), (1, some 1), (2, some 2)] rfl rfl ?_ ?_⟩
        · simp only [wkT, wkB, wkB1, subV, subVs, subD, subB, lkN_n, lkN_c, lkT_n, lkT_c, lkB_n, lkB_c, if_true, if_false, reduceIte, Nat.reduceEqDiff, true_and, and_true, and_self, inT, ofA]
          (repeat' (first | exact trivial | rfl | exact rfl | exact subVs_d _ _ | exact subVs_dm _ _ | exact subD_refl _ | refine And.intro ?_ ?_))
        · simp only [wkT, wkB, wkB1, subV, subVs, subD, subB, lkN_n, lkN_c, lkT_n, lkT_c, lkB_n, lkB_c, if_true, if_false, reduceIte, Nat.reduceEqDiff, true_and, and_true, and_self, inT, ofA]
          rw [← hskip]
          (repeat' (first | ((exact subVs_row2 _ _)) | exact trivial | rfl | exact rfl | exact subVs_d _ _ | exact subVs_dm _ _ | exact subD_refl _ | refine And.intro ?_ ?_))
      | false =>
        have hidL : idL x = ⟨x.inn, true, rngI x.inn.length⟩ := by rw [idL, if_neg (by rw [hkn]; simp)]; rfl
        rcases hqp with ⟨i', o', e1, e2, e3, e4, _⟩ | ⟨e1, e2, _⟩
        · have hneg : decide (i ≥ 0) = true := decide_eq_true (by omega)
          have hrl := rngI_len x.inn.length
          have hsw : swpF x i o = ⟨x.inn, true, swapL (rngI x.inn.length) i' o'⟩ := by
            rw [swpF, if_neg (by rw [hkn]; simp), if_pos (by omega), e1, e2, Int.toNat_natCast, Int.toNat_natCast]
          have hsl : swapL (rngI x.inn.length) i' o' = ((rngI x.inn.length).set i' ((rngI x.inn.length).getD o' 0)).set o' ((rngI x.inn.length).getD i' 0) := rfl
          rw [hsw] at hset
          rw [hidL] at hgt
          rw [e1] at hgI hneg
          rw [e2] at hgO
          obtain ⟨r, hr⟩ : ∃ r, r = rngI x.inn.length := ⟨_, rfl⟩
          rw [← hr] at hrl hsl hset hgt
          obtain ⟨S, hS⟩ : ∃ S, S = swapL r i' o' := ⟨_, rfl⟩
          rw [← hS] at hsl hset
          repeat' (first
            | (with_reducible refine aw_seq ?_)
            | (with_reducible refine aw_stop (id := 22) ?_)
            | ((with_reducible refine twoG_intro ?_ ?_) <;> intro hTw <;> first | (exact Bool.noConfusion hTw) | ((try simp only [hTw, Bool.not_true, Bool.not_false, Bool.true_and, Bool.false_and, Bool.and_true, Bool.and_false, Bool.true_or, Bool.false_or, Bool.or_true, Bool.or_false]); (first | (guard_hyp hTw : true = true; clear hTw) | (guard_hyp hTw : false = false; clear hTw) | (revert hTw; intro _))))
            | ((with_reducible refine two_intro ?_ ?_) <;> intro hTw <;> first | (exact Bool.noConfusion hTw) | ((first | (guard_hyp hTw : true = true; clear hTw) | (guard_hyp hTw : false = false; clear hTw) | (revert hTw; intro _))))
            | ((with_reducible refine And.intro ?_ ?_); (focus (first | omega | rfl | decide | grind)))
            | (with_reducible refine aw_block ?_)
            | (with_reducible refine aw_scope ?_)
            | ((first
                | ((with_reducible refine aw_regionU (id := 20) 1 4 (dV (intD 0)) T_ok ?_ ?_); (focus kernel_rfl); (dsimp only [List.take, List.drop, List.toList_toArray]))
                | ((with_reducible refine aw_regionA T_ok ?_ ?_); (focus kernel_rfl))
                | ((with_reducible refine aw_drawnL (id := 21) 25 5 [5,6,7,8,9,26] T_ok ?_ ?_ ?_ ?_ ?_); (focus kernel_rfl); (focus kernel_rfl); (focus (decide +kernel)); (focus kernel_rfl))
                | ((with_reducible refine aw_drawnA T_ok ?_ ?_ ?_ ?_); (focus kernel_rfl); (focus kernel_rfl); (focus (decide +kernel)))
                | ((with_reducible refine aw_drawnF T_ok ?_ ?_ ?_ ?_); (focus kernel_rfl); (focus kernel_rfl); (focus (decide +kernel)))
                | (with_reducible refine fin2_intro ?_)
                | (with_reducible refine aw_label ?_)
                | ((with_reducible refine aw_rfM ?_ ?_); (focus kernel_rfl))
                | (with_reducible refine aw_skip ?_)
                | (with_reducible refine aw_exit ?_)
                | ((with_reducible refine aw_condM ?_ ?_); (focus kernel_rfl))
                | (with_reducible refine aw_ret ?_)
              ); simp only [↓avP, avQ, if_true, if_false, forall_const, beq_self_eq_true, eq_self, ne_eq, implies_true, reduceIte, Nat.reduceEqDiff, Nat.reduceAdd, Nat.reduceSub, Int.reduceToNat, Nat.reduceLeDiff, Nat.reduceLT, reduceCtorEq, Int.reduceEq, untK.eq_def, untS, untV, ↓earlyR.eq_def, lateK.eq_def, tailX, Nat.reduceBEq, retQ, retL, resV, RetV, RetOk, SubL, intD_B, u8D_B, lotD_B, flowD_B, snocI, snocL, snocW, lotD_t1, lotD_t2, row_get, row_set1, intD_drop, lotr_get, lotr_drop, lotr_set, fl_t1, fl_d2, ty_3, ty_5, ty_42, ty_27, ty_4, ty_24, ty_40, ty_22, ty_31, issD_get, hd, ← hx, hkn, hlI, hlO, hgI, hgO, hneg, hpl, hgt, hrl, hsl.symm]; try simp (disch := omega) only [av_w, av_t1, av_tp, Int.toNat_natCast]))
          refine ⟨?_⟩
          refine aw_frzD 5 (intD 0) (S.map intD) rfl rfl ?_
          simp only [frzS, frzM, frzK, frz1, frz2, frz_dV, List.map_cons, List.map_nil, setB, reduceIte, Nat.reduceEqDiff]
          repeat' (first
            | (with_reducible refine aw_seq ?_)
            | ((with_reducible refine twoG_intro ?_ ?_) <;> intro hTw <;> first | (exact Bool.noConfusion hTw) | ((try simp only [hTw, Bool.not_true, Bool.not_false, Bool.true_and, Bool.false_and, Bool.and_true, Bool.and_false, Bool.true_or, Bool.false_or, Bool.or_true, Bool.or_false]); (first | (guard_hyp hTw : true = true; clear hTw) | (guard_hyp hTw : false = false; clear hTw) | (revert hTw; intro _))))
            | ((with_reducible refine two_intro ?_ ?_) <;> intro hTw <;> first | (exact Bool.noConfusion hTw) | ((first | (guard_hyp hTw : true = true; clear hTw) | (guard_hyp hTw : false = false; clear hTw) | (revert hTw; intro _))))
            | ((with_reducible refine And.intro ?_ ?_); (focus (first | omega | rfl | decide | grind)))
            | (with_reducible refine aw_block ?_)
            | (with_reducible refine aw_scope ?_)
            | ((first
                | ((with_reducible refine aw_regionA T_ok ?_ ?_); (focus kernel_rfl))
                | ((with_reducible refine aw_drawnA T_ok ?_ ?_ ?_ ?_); (focus kernel_rfl); (focus kernel_rfl); (focus (decide +kernel)))
                | ((with_reducible refine aw_drawnF T_ok ?_ ?_ ?_ ?_); (focus kernel_rfl); (focus kernel_rfl); (focus (decide +kernel)))
                | (with_reducible refine aw_label ?_)
                | ((with_reducible refine aw_rfM ?_ ?_); (focus kernel_rfl))
                | (with_reducible refine aw_skip ?_)
                | (with_reducible refine aw_exit ?_)
                | ((with_reducible refine aw_condM ?_ ?_); (focus kernel_rfl))
                | (with_reducible refine aw_ret ?_)
              ); simp only [↓avP, avQ, if_true, if_false, forall_const, beq_self_eq_true, eq_self, ne_eq, implies_true, reduceIte, Nat.reduceEqDiff, Nat.reduceAdd, Nat.reduceSub, Int.reduceToNat, Nat.reduceLeDiff, Nat.reduceLT, reduceCtorEq, Int.reduceEq, retQ, retL, resV, RetV, RetOk, SubL, intD_B, u8D_B, lotD_B, flowD_B, snocI, snocL, snocW, lotD_t1, lotD_t2, row_get, row_set1, intD_drop, lotr_get, lotr_drop, lotr_set, fl_t1, fl_d2, ty_3, ty_5, ty_42, ty_27, ty_4, ty_24, ty_40, ty_22, ty_31, issD_get, hgt, hpl]; try simp (disch := omega) only [av_w, av_t1, av_tp, Int.toNat_natCast]))
          refine ⟨k + 1, by omega, by dsimp only; omega, wk_of [(0, some 0), (1, some 1), (2, some 2)] rfl rfl ?_ ?_⟩
          · simp only [wkT, wkB, wkB1, subV, subVs, subD, subB, lkN_n, lkN_c, lkT_n, lkT_c, lkB_n, lkB_c, if_true, if_false, reduceIte, Nat.reduceEqDiff, true_and, and_true, and_self, inT, ofA]
            (repeat' (first | exact trivial | rfl | exact rfl | exact subVs_d _ _ | exact subVs_dm _ _ | exact subD_refl _ | refine And.intro ?_ ?_))
          · simp only [wkT, wkB, wkB1, subV, subVs, subD, subB, lkN_n, lkN_c, lkT_n, lkT_c, lkB_n, lkB_c, if_true, if_false, reduceIte, Nat.reduceEqDiff, true_and, and_true, and_self, inT, ofA]
            rw [← hset, ← lotr_set]
            (repeat' (first | ((exact subVs_set _ (show subVs _ [V.d (D.sl 1 (intD 0) (x.inn.map intD)), V.d (D.c (Value.bool true)), V.ow 5 1 (intD 0) (S.map intD)] (dV (lotD ⟨x.inn, true, S⟩)) from ⟨subD_refl _, subD_refl _, ⟨rfl, rfl⟩, trivial⟩) _ _)) | ((rw [List.map_set, List.map_set]; rfl)) | exact trivial | rfl | exact rfl | exact subVs_d _ _ | exact subVs_dm _ _ | exact subD_refl _ | refine And.intro ?_ ?_))
        · have hneg : decide (i ≥ 0) = false := decide_eq_false (by omega)
          have hskip := hskip (by rw [swpF, if_neg (by rw [hkn]; simp), if_neg (by omega), hidL])
          repeat' (first
            | (with_reducible refine aw_seq ?_)
            | ((with_reducible refine twoG_intro ?_ ?_) <;> intro hTw <;> first | (exact Bool.noConfusion hTw) | ((try simp only [hTw, Bool.not_true, Bool.not_false, Bool.true_and, Bool.false_and, Bool.and_true, Bool.and_false, Bool.true_or, Bool.false_or, Bool.or_true, Bool.or_false]); (first | (guard_hyp hTw : true = true; clear hTw) | (guard_hyp hTw : false = false; clear hTw) | (revert hTw; intro _))))
            | ((with_reducible refine two_intro ?_ ?_) <;> intro hTw <;> first | (exact Bool.noConfusion hTw) | ((first | (guard_hyp hTw : true = true; clear hTw) | (guard_hyp hTw : false = false; clear hTw) | (revert hTw; intro _))))
            | ((with_reducible refine And.intro ?_ ?_); (focus (first | omega | rfl | decide | grind)))
            | (with_reducible refine aw_block ?_)
            | (with_reducible refine aw_scope ?_)
            | ((first
                | ((with_reducible refine aw_regionA T_ok ?_ ?_); (focus kernel_rfl))
                | ((with_reducible refine aw_drawnA T_ok ?_ ?_ ?_ ?_); (focus kernel_rfl); (focus kernel_rfl); (focus (decide +kernel)))
                | ((with_reducible refine aw_drawnF T_ok ?_ ?_ ?_ ?_); (focus kernel_rfl); (focus kernel_rfl); (focus (decide +kernel)))
                | (with_reducible refine aw_label ?_)
                | ((with_reducible refine aw_rfM ?_ ?_); (focus kernel_rfl))
                | (with_reducible refine aw_skip ?_)
                | (with_reducible refine aw_exit ?_)
                | ((with_reducible refine aw_condM ?_ ?_); (focus kernel_rfl))
                | (with_reducible refine aw_ret ?_)
              ); simp only [↓avP, avQ, if_true, if_false, forall_const, beq_self_eq_true, eq_self, ne_eq, implies_true, reduceIte, Nat.reduceEqDiff, Nat.reduceAdd, Nat.reduceSub, Int.reduceToNat, Nat.reduceLeDiff, Nat.reduceLT, reduceCtorEq, Int.reduceEq, retQ, retL, resV, RetV, RetOk, SubL, intD_B, u8D_B, lotD_B, flowD_B, snocI, snocL, snocW, lotD_t1, lotD_t2, row_get, row_set1, intD_drop, lotr_get, lotr_drop, lotr_set, fl_t1, fl_d2, ty_3, ty_5, ty_42, ty_27, ty_4, ty_24, ty_40, ty_22, ty_31, issD_get, hd, ← hx, hkn, hlI, hgI, hneg]; try simp (disch := omega) only [av_w, av_t1, av_tp, Int.toNat_natCast]))
          refine ⟨k + 1, by omega, by dsimp only; omega, wk_of [(0, some 0), (1, some 1), (2, some 2)] rfl rfl ?_ ?_⟩
          · simp only [wkT, wkB, wkB1, subV, subVs, subD, subB, lkN_n, lkN_c, lkT_n, lkT_c, lkB_n, lkB_c, if_true, if_false, reduceIte, Nat.reduceEqDiff, true_and, and_true, and_self, inT, ofA]
            (repeat' (first | exact trivial | rfl | exact rfl | exact subVs_d _ _ | exact subVs_dm _ _ | exact subD_refl _ | refine And.intro ?_ ?_))
          · simp only [wkT, wkB, wkB1, subV, subVs, subD, subB, lkN_n, lkN_c, lkT_n, lkT_c, lkB_n, lkB_c, if_true, if_false, reduceIte, Nat.reduceEqDiff, true_and, and_true, and_self, inT, ofA]
            rw [← hskip]
            (repeat' (first | ((exact subVs_row2 _ _)) | exact trivial | rfl | exact rfl | exact subVs_d _ _ | exact subVs_dm _ _ | exact subD_refl _ | refine And.intro ?_ ?_))
    obtain rfl : k = f.lots.length := by omega
    have hd := ged (Nat.le_refl f.lots.length)
    have hM := map_known (g := pthF f s e) (hpok) (hpfin.check hc) (pthF_known f s e) (N := N) hN
    have hml2 : (mapAt (pthF f s e) N).length = N := mapAt_len _ _
    have hmg2 : (mapAt (pthF f s e) N).getD s 0 = e := by rw [mapAt_at hsN]; exact hpend
    obtain ⟨M, hMe⟩ : ∃ M, M = mapAt (pthF f s e) N := ⟨_, rfl⟩
    rw [← hMe] at hM hml2 hmg2
    have hM : Spec Try.prog 23 [.agg [.c (.int .i64 f.senders), .sl 3 (lotD default) ((pthL f (inQ' f s e) (outQ' f s e) f.lots.length).map lotD)]] (.rt [aIs M, aI 0]) := hM
    obtain ⟨W, hW⟩ : ∃ W, W = pthL f (inQ' f s e) (outQ' f s e) f.lots.length := ⟨_, rfl⟩
    rw [← hW] at hM ⊢
    have g1 : ((M.length : Int) != f.senders) = false := by simp; omega
    have g2 : (e != e) = false := by simp
    repeat' (first
      | (with_reducible refine aw_seq ?_)
      | (with_reducible refine aw_stop (id := 24) ?_)
      | ((with_reducible refine twoG_intro ?_ ?_) <;> intro hTw <;> first | (exact Bool.noConfusion hTw) | ((try simp only [hTw, Bool.not_true, Bool.not_false, Bool.true_and, Bool.false_and, Bool.and_true, Bool.and_false, Bool.true_or, Bool.false_or, Bool.or_true, Bool.or_false]); (first | (guard_hyp hTw : true = true; clear hTw) | (guard_hyp hTw : false = false; clear hTw) | (revert hTw; intro _))))
      | ((with_reducible refine two_intro ?_ ?_) <;> intro hTw <;> first | (exact Bool.noConfusion hTw) | ((first | (guard_hyp hTw : true = true; clear hTw) | (guard_hyp hTw : false = false; clear hTw) | (revert hTw; intro _))))
      | ((with_reducible refine And.intro ?_ ?_); (focus (first | omega | rfl | decide | grind)))
      | (with_reducible refine aw_block ?_)
      | (with_reducible refine aw_scope ?_)
      | ((first
          | ((with_reducible refine aw_regionA T_ok ?_ ?_); (focus kernel_rfl))
          | ((with_reducible refine aw_drawnA T_ok ?_ ?_ ?_ ?_); (focus kernel_rfl); (focus kernel_rfl); (focus (decide +kernel)))
          | ((with_reducible refine aw_drawnF T_ok ?_ ?_ ?_ ?_); (focus kernel_rfl); (focus kernel_rfl); (focus (decide +kernel)))
          | (with_reducible refine aw_label ?_)
          | ((with_reducible refine aw_rfM ?_ ?_); (focus kernel_rfl))
          | (with_reducible refine aw_skip ?_)
          | (with_reducible refine aw_exit ?_)
          | ((with_reducible refine aw_condM ?_ ?_); (focus kernel_rfl))
          | (with_reducible refine aw_ret ?_)
        ); simp only [↓avP, avQ, if_true, if_false, forall_const, beq_self_eq_true, eq_self, ne_eq, implies_true, reduceIte, Nat.reduceEqDiff, Nat.reduceAdd, Nat.reduceSub, Int.reduceToNat, Nat.reduceLeDiff, Nat.reduceLT, reduceCtorEq, Int.reduceEq, retQ, retL, resV, RetV, RetOk, SubL, intD_B, u8D_B, lotD_B, flowD_B, snocI, snocL, snocW, lotD_t1, lotD_t2, row_get, row_set1, intD_drop, lotr_get, lotr_drop, lotr_set, fl_t1, fl_d2, ty_3, ty_5, ty_42, ty_27, ty_4, ty_24, ty_40, ty_22, ty_31, issD_get, hd]; try simp (disch := omega) only [av_w, av_t1, av_tp, Int.toNat_natCast]))
    refine ⟨?_⟩
    refine aw_frzD 1 (lotD default) (W.map lotD) rfl rfl ?_
    simp only [frzS, frzM, frzK, frz1, frz2, frz_dV, List.map_cons, List.map_nil, setB, reduceIte, Nat.reduceEqDiff]
    repeat' (first
      | (with_reducible refine aw_seq ?_)
      | ((with_reducible refine twoG_intro ?_ ?_) <;> intro hTw <;> first | (exact Bool.noConfusion hTw) | ((try simp only [hTw, Bool.not_true, Bool.not_false, Bool.true_and, Bool.false_and, Bool.and_true, Bool.and_false, Bool.true_or, Bool.false_or, Bool.or_true, Bool.or_false]); (first | (guard_hyp hTw : true = true; clear hTw) | (guard_hyp hTw : false = false; clear hTw) | (revert hTw; intro _))))
      | ((with_reducible refine two_intro ?_ ?_) <;> intro hTw <;> first | (exact Bool.noConfusion hTw) | ((first | (guard_hyp hTw : true = true; clear hTw) | (guard_hyp hTw : false = false; clear hTw) | (revert hTw; intro _))))
      | ((with_reducible refine And.intro ?_ ?_); (focus (first | omega | rfl | decide | grind)))
      | (with_reducible refine aw_block ?_)
      | (with_reducible refine aw_scope ?_)
      | ((first
          | ((with_reducible refine aw_regionA T_ok ?_ ?_); (focus kernel_rfl))
          | ((with_reducible refine aw_drawnA T_ok ?_ ?_ ?_ ?_); (focus kernel_rfl); (focus kernel_rfl); (focus (decide +kernel)))
          | ((with_reducible refine aw_drawnF T_ok ?_ ?_ ?_ ?_); (focus kernel_rfl); (focus kernel_rfl); (focus (decide +kernel)))
          | ((with_reducible refine callK_intro (hM) (by with_unfolding_all rfl) ?_ ?_); (focus kernel_rfl))
          | ((with_reducible refine callI_spec (hM) (by with_unfolding_all rfl) ?_ ?_ ?_); (focus kernel_rfl); (focus kernel_rfl))
          | (with_reducible refine aw_label ?_)
          | ((with_reducible refine aw_rfM ?_ ?_); (focus kernel_rfl))
          | (with_reducible refine aw_skip ?_)
          | (with_reducible refine aw_exit ?_)
          | ((with_reducible refine aw_condM ?_ ?_); (focus kernel_rfl))
          | (with_reducible refine aw_ret ?_)
        ); simp only [↓avP, avQ, if_true, if_false, forall_const, beq_self_eq_true, eq_self, ne_eq, implies_true, reduceIte, Nat.reduceEqDiff, Nat.reduceAdd, Nat.reduceSub, Int.reduceToNat, Nat.reduceLeDiff, Nat.reduceLT, reduceCtorEq, Int.reduceEq, retQ, retL, resV, RetV, RetOk, SubL, intD_B, u8D_B, lotD_B, flowD_B, snocI, snocL, snocW, lotD_t1, lotD_t2, row_get, row_set1, intD_drop, lotr_get, lotr_drop, lotr_set, fl_t1, fl_d2, ty_3, ty_5, ty_42, ty_27, ty_4, ty_24, ty_40, ty_22, ty_31, issD_get, g1, hmg2, g2]; try simp (disch := omega) only [av_w, av_t1, av_tp, Int.toNat_natCast]))
    refine ⟨m + 1, by omega, by dsimp only; omega, wk_of [(0, some 0)] rfl rfl ?_ ?_⟩
    · simp only [wkT, wkB, wkB1, subV, subVs, subD, subB, lkN_n, lkN_c, lkT_n, lkT_c, lkB_n, lkB_c, if_true, if_false, reduceIte, Nat.reduceEqDiff, true_and, and_true, and_self, inT, ofA]
      (repeat' (first | exact trivial | rfl | exact rfl | exact subVs_d _ _ | exact subVs_dm _ _ | exact subD_refl _ | refine And.intro ?_ ?_))
    · simp only [wkT, wkB, wkB1, subV, subVs, subD, subB, lkN_n, lkN_c, lkT_n, lkT_c, lkB_n, lkB_c, if_true, if_false, reduceIte, Nat.reduceEqDiff, true_and, and_true, and_self, inT, ofA]
      (repeat' (first | exact trivial | rfl | exact rfl | exact subVs_d _ _ | exact subVs_dm _ _ | exact subD_refl _ | refine And.intro ?_ ?_))
  obtain rfl : m = E.length := by omega
  have hd := ged (Nat.le_refl E.length)
  repeat' (first
    | (with_reducible refine aw_seq ?_)
    | ((with_reducible refine twoG_intro ?_ ?_) <;> intro hTw <;> first | (exact Bool.noConfusion hTw) | ((try simp only [hTw, Bool.not_true, Bool.not_false, Bool.true_and, Bool.false_and, Bool.and_true, Bool.and_false, Bool.true_or, Bool.false_or, Bool.or_true, Bool.or_false]); (first | (guard_hyp hTw : true = true; clear hTw) | (guard_hyp hTw : false = false; clear hTw) | (revert hTw; intro _))))
    | ((with_reducible refine two_intro ?_ ?_) <;> intro hTw <;> first | (exact Bool.noConfusion hTw) | ((first | (guard_hyp hTw : true = true; clear hTw) | (guard_hyp hTw : false = false; clear hTw) | (revert hTw; intro _))))
    | ((with_reducible refine And.intro ?_ ?_); (focus (first | omega | rfl | decide | grind)))
    | (with_reducible refine aw_block ?_)
    | (with_reducible refine aw_scope ?_)
    | ((first
        | ((with_reducible refine aw_regionA T_ok ?_ ?_); (focus kernel_rfl))
        | ((with_reducible refine aw_drawnA T_ok ?_ ?_ ?_ ?_); (focus kernel_rfl); (focus kernel_rfl); (focus (decide +kernel)))
        | ((with_reducible refine aw_drawnF T_ok ?_ ?_ ?_ ?_); (focus kernel_rfl); (focus kernel_rfl); (focus (decide +kernel)))
        | (with_reducible refine aw_label ?_)
        | ((with_reducible refine aw_rfM ?_ ?_); (focus kernel_rfl))
        | (with_reducible refine aw_skip ?_)
        | (with_reducible refine aw_exit ?_)
        | ((with_reducible refine aw_condM ?_ ?_); (focus kernel_rfl))
        | (with_reducible refine aw_ret ?_)
      ); simp only [↓avP, avQ, if_true, if_false, forall_const, beq_self_eq_true, eq_self, ne_eq, implies_true, reduceIte, Nat.reduceEqDiff, Nat.reduceAdd, Nat.reduceSub, Int.reduceToNat, Nat.reduceLeDiff, Nat.reduceLT, reduceCtorEq, Int.reduceEq, retQ, retL, resV, RetV, RetOk, SubL, intD_B, u8D_B, lotD_B, flowD_B, snocI, snocL, snocW, lotD_t1, lotD_t2, row_get, row_set1, intD_drop, lotr_get, lotr_drop, lotr_set, fl_t1, fl_d2, ty_3, ty_5, ty_42, ty_27, ty_4, ty_24, ty_40, ty_22, ty_31, issD_get, hd]; try simp (disch := omega) only [av_w, av_t1, av_tp, Int.toNat_natCast]))
  exact Sub.refl _
theorem wrow7 (f : FlowP) (a : Int) (hf : OkF f) (ha : (Lit.int .u8 a).wf = true) : Spec Try.prog 7 [.agg (flowD f), .one (.c (.int .u8 a))] (.r1 (aB true)) := wlaw7_spec f a hf (wf_u8w ha)
end Go.Proofs.Ytncihbmehbiekaa

