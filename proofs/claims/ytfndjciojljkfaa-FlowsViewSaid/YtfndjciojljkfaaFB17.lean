import Derived.Test.YtfndjciojljkfaaFB15
import Derived.Test.YtfndjciojljkfaaFB14
import Derived.Test.YtfndjciojljkfaaFB16
namespace Go.Proofs.Ytfndjciojljkfaa
set_option linter.unusedSimpArgs false
set_option linter.unusedVariables false
open Go.RowKit
set_option maxRecDepth 100000
set_option maxHeartbeats 4000000
/-- a flow with a lot more, as the code lays it -/
abbrev xMore (f : FlowP) (x : LotP) : A := .agg [.c (.int .i64 f.senders), .sl 3 lotZ ((f.lots ++ [x]).map lotD)]
theorem sMore (f : FlowP) (x : LotP) : Sub (xMore f x) (.agg (flowD (moreF f x))) := Sub.aggL ⟨SubD.refl _, SubD.of _ _ ⟨rfl, rfl⟩, trivial⟩
theorem flaw5_spec (f : FlowP) (x : LotP) (hf : OkFB f) (hx : OkL x) : Spec Try.prog 7 [.agg (flowD f), .agg (lotD x)] (.r1 (aB true)) := by
  refine spec_of T_ok Try.func7 (by dsimp only [Try.f7]) rfl rfl (by simp) fun w F => ?_
  obtain ⟨hf, hfb⟩ := hf
  have hfl := hf.l
  have hm : OkF (moreF f x) := hf.more hx (by omega)
  have hFw : Spec Try.prog 17 [xMore f x] (.r1 (aB (fewF (moreF f x)))) := (ffew_spec _ hm.l).args ⟨sMore f x, trivial⟩
  have hQ : Spec Try.prog 21 [xMore f x] (.r1 (aI (checkF (moreF f x)))) := (qfcheck_spec _ hm).args ⟨sMore f x, trivial⟩
  have hK : Spec Try.prog 29 [xMore f x] (.r1 (aB (knownF (moreF f x)))) := (qknown_spec _ hm.l).args ⟨sMore f x, trivial⟩
  have hA := fmap_spec f hf
  have hB : Spec Try.prog 24 [xMore f x] (.rt [aIs (mapR (moreF f x)), aI (errM (moreF f x))]) := (fmap_spec _ hm).args ⟨sMore f x, trivial⟩
  by_cases hall : fewF (moreF f x) = true ∧ checkF (moreF f x) = 0 ∧ knownF (moreF f x) = true
  rotate_left
  · have hd : (!fewF (moreF f x) || checkF (moreF f x) != 0 || !knownF (moreF f x)) = true := by
      cases h1 : fewF (moreF f x) <;> cases h2 : knownF (moreF f x) <;> by_cases h3 : checkF (moreF f x) = 0 <;> simp_all
    repeat' (first
      | (with_reducible refine aw_seq ?_)
      | ((with_reducible refine twoG_intro ?_ ?_) <;> intro hTw <;> first | (exact Bool.noConfusion hTw) | ((try simp only [hTw, Bool.not_true, Bool.not_false, Bool.true_and, Bool.false_and, Bool.and_true, Bool.and_false, Bool.true_or, Bool.false_or, Bool.or_true, Bool.or_false]); (first | (guard_hyp hTw : true = true; clear hTw) | (guard_hyp hTw : false = false; clear hTw) | (revert hTw; intro _))))
      | ((with_reducible refine two_intro ?_ ?_) <;> intro hTw <;> first | (exact Bool.noConfusion hTw) | ((first | (guard_hyp hTw : true = true; clear hTw) | (guard_hyp hTw : false = false; clear hTw) | (revert hTw; intro _))))
      | ((with_reducible refine And.intro ?_ ?_); (focus (first | omega | rfl | decide | grind)))
      | (with_reducible refine aw_block ?_)
      | (with_reducible refine aw_scope ?_)
      | ((first
          | ((with_reducible refine aw_regionA T_ok ?_ ?_); (focus kernel_rfl))
          | ((with_reducible refine aw_drawnA T_ok ?_ ?_ ?_ ?_); (focus kernel_rfl); (focus kernel_rfl); (focus (decide +kernel)))
          | ((with_reducible refine aw_drawnF T_ok ?_ ?_ ?_ ?_); (focus kernel_rfl); (focus kernel_rfl); (focus (decide +kernel)))
          | ((with_reducible refine aw_drawnC T_ok ?_ ?_ ?_ ?_); (focus kernel_rfl); (focus kernel_rfl); (focus (decide +kernel)))
          | ((with_reducible refine callK_intro (fsane_spec) (by with_unfolding_all rfl) ?_ ?_); (focus kernel_rfl))
          | ((with_reducible refine callI_spec (fsane_spec) (by with_unfolding_all rfl) ?_ ?_ ?_); (focus kernel_rfl); (focus kernel_rfl))
          | ((with_reducible refine callK_intro (hFw) (by with_unfolding_all rfl) ?_ ?_); (focus kernel_rfl))
          | ((with_reducible refine callI_spec (hFw) (by with_unfolding_all rfl) ?_ ?_ ?_); (focus kernel_rfl); (focus kernel_rfl))
          | ((with_reducible refine callK_intro (hQ) (by with_unfolding_all rfl) ?_ ?_); (focus kernel_rfl))
          | ((with_reducible refine callI_spec (hQ) (by with_unfolding_all rfl) ?_ ?_ ?_); (focus kernel_rfl); (focus kernel_rfl))
          | ((with_reducible refine callK_intro (hK) (by with_unfolding_all rfl) ?_ ?_); (focus kernel_rfl))
          | ((with_reducible refine callI_spec (hK) (by with_unfolding_all rfl) ?_ ?_ ?_); (focus kernel_rfl); (focus kernel_rfl))
          | (with_reducible refine aw_label ?_)
          | ((with_reducible refine aw_rfM ?_ ?_); (focus kernel_rfl))
          | (with_reducible refine aw_skip ?_)
          | (with_reducible refine aw_exit ?_)
          | ((with_reducible refine aw_condM ?_ ?_); (focus kernel_rfl))
          | (with_reducible refine aw_ret ?_)
        ); simp only [↓avP, avQ, if_true, if_false, forall_const, beq_self_eq_true, eq_self, ne_eq, implies_true, reduceIte, Nat.reduceEqDiff, Nat.reduceAdd, Nat.reduceSub, Int.reduceToNat, Nat.reduceLeDiff, Nat.reduceLT, reduceCtorEq, Int.reduceEq, ↓hwpC.eq_def, ↓hopC.eq_def, ↓apKH.eq_def, ↓apH.eq_def, rqOk, lkC, delO, takes, whoMakes, headC, tailC, isTC, Option.some.injEq, Nat.zero_le, Nat.sub_zero, retQ, retL, resV, RetV, RetOk, SubL, intD_B, lotD_B, flowD_B, snocI, snocL, ty_3, ty_27, ty_4, ty_24, ty_43, ty_22, ty_33, hd]; try simp (disch := omega) only [av_w, av_t1, av_tp, Int.toNat_natCast]))
    exact Sub.refl _
  obtain ⟨hfw, hc, hk⟩ := hall
  rw [hc] at hQ
  have hcf := more_check hc
  have hkf := more_known hk
  have e1 : errM f = 0 := by rw [errM, if_neg (by simpa using hcf), if_pos hkf]
  have e2 : errM (moreF f x) = 0 := by rw [errM, if_neg (by simpa using hc), if_pos hk]
  have z := checkF_zero hcf
  have hs := checkF_small hcf
  obtain ⟨N, hN⟩ : ∃ N : Nat, f.senders = N := ⟨f.senders.toNat, by omega⟩
  have ra : mapR f = mapAt f N := by rw [mapR, if_pos e1, hN]; rfl
  have rb : mapR (moreF f x) = mapAt (moreF f x) N := by rw [mapR, if_pos e2]; show mapAt _ f.senders.toNat = _; rw [hN]; rfl
  rw [ra, e1] at hA
  rw [rb, e2] at hB
  obtain ⟨a, hae⟩ : ∃ a, a = mapAt f N := ⟨_, rfl⟩
  obtain ⟨b, hbe⟩ : ∃ b, b = mapAt (moreF f x) N := ⟨_, rfl⟩
  rw [← hae] at hA
  rw [← hbe] at hB
  have la : a.length = N := by rw [hae, mapAt_len]
  have lb : b.length = N := by rw [hbe, mapAt_len]
  have la' : ((a.length : Int) != f.senders) = false := by simp; omega
  have lb' : ((b.length : Int) != f.senders) = false := by simp; omega
  have hbf := qbefore_spec f f.lots.length hf hs (Nat.le_refl _)
  have hx' : (moreF f x).lots.getD f.lots.length default = x := more_at f x
  have hg : GoodL (befF f f.lots.length) (goneF f f.lots.length) x := by
    have := goodL_at hc (k := f.lots.length) (by rw [more_len]; omega)
    rw [hx'] at this
    have e3 := take_bef (f := moreF f x) (k := f.lots.length) (i := f.lots.length) (Nat.le_refl _)
    have e4 := take_gone (f := moreF f x) (k := f.lots.length) (i := f.lots.length) (Nat.le_refl _)
    rw [take_more] at e3 e4
    rw [e3, e4]
    exact this
  have hkn : x.known = true := by
    have := knownF_at hk (k := f.lots.length) (by rw [more_len]; omega)
    rwa [hx'] at this
  have hpl := (hg.pl hkn).1
  have hpr := (hg.pl hkn).2.2
  have hli := hx.li
  have hbb := befF_mono (f := f) (Nat.le_refl f.lots.length)
  have hfin : ∀ {s : Nat}, s < N → b.getD s 0 = stepF (befF f f.lots.length) x (a.getD s 0) := fun {s} hs => by
    rw [hbe, hae, mapAt_get _ hs, mapAt_get _ hs]
    exact more_follow f x s
  repeat' (first
    | (with_reducible refine aw_seq ?_)
    | ((with_reducible refine twoG_intro ?_ ?_) <;> intro hTw <;> first | (exact Bool.noConfusion hTw) | ((try simp only [hTw, Bool.not_true, Bool.not_false, Bool.true_and, Bool.false_and, Bool.and_true, Bool.and_false, Bool.true_or, Bool.false_or, Bool.or_true, Bool.or_false]); (first | (guard_hyp hTw : true = true; clear hTw) | (guard_hyp hTw : false = false; clear hTw) | (revert hTw; intro _))))
    | ((with_reducible refine two_intro ?_ ?_) <;> intro hTw <;> first | (exact Bool.noConfusion hTw) | ((first | (guard_hyp hTw : true = true; clear hTw) | (guard_hyp hTw : false = false; clear hTw) | (revert hTw; intro _))))
    | ((with_reducible refine And.intro ?_ ?_); (focus (first | omega | rfl | decide | grind)))
    | (with_reducible refine aw_block ?_)
    | (with_reducible refine aw_scope ?_)
    | ((first
        | ((with_reducible refine aw_regionA T_ok ?_ ?_); (focus kernel_rfl))
        | ((with_reducible refine aw_drawnA T_ok ?_ ?_ ?_ ?_); (focus kernel_rfl); (focus kernel_rfl); (focus (decide +kernel)))
        | ((with_reducible refine aw_drawnF T_ok ?_ ?_ ?_ ?_); (focus kernel_rfl); (focus kernel_rfl); (focus (decide +kernel)))
        | ((with_reducible refine aw_drawnC T_ok ?_ ?_ ?_ ?_); (focus kernel_rfl); (focus kernel_rfl); (focus (decide +kernel)))
        | ((with_reducible refine callK_intro (fsane_spec) (by with_unfolding_all rfl) ?_ ?_); (focus kernel_rfl))
        | ((with_reducible refine callI_spec (fsane_spec) (by with_unfolding_all rfl) ?_ ?_ ?_); (focus kernel_rfl); (focus kernel_rfl))
        | ((with_reducible refine callK_intro (hFw) (by with_unfolding_all rfl) ?_ ?_); (focus kernel_rfl))
        | ((with_reducible refine callI_spec (hFw) (by with_unfolding_all rfl) ?_ ?_ ?_); (focus kernel_rfl); (focus kernel_rfl))
        | ((with_reducible refine callK_intro (hQ) (by with_unfolding_all rfl) ?_ ?_); (focus kernel_rfl))
        | ((with_reducible refine callI_spec (hQ) (by with_unfolding_all rfl) ?_ ?_ ?_); (focus kernel_rfl); (focus kernel_rfl))
        | ((with_reducible refine callK_intro (hK) (by with_unfolding_all rfl) ?_ ?_); (focus kernel_rfl))
        | ((with_reducible refine callI_spec (hK) (by with_unfolding_all rfl) ?_ ?_ ?_); (focus kernel_rfl); (focus kernel_rfl))
        | ((with_reducible refine callK_intro (hA) (by with_unfolding_all rfl) ?_ ?_); (focus kernel_rfl))
        | ((with_reducible refine callI_spec (hA) (by with_unfolding_all rfl) ?_ ?_ ?_); (focus kernel_rfl); (focus kernel_rfl))
        | ((with_reducible refine callK_intro (hB) (by with_unfolding_all rfl) ?_ ?_); (focus kernel_rfl))
        | ((with_reducible refine callI_spec (hB) (by with_unfolding_all rfl) ?_ ?_ ?_); (focus kernel_rfl); (focus kernel_rfl))
        | ((with_reducible refine callK_intro (hbf) (by with_unfolding_all rfl) ?_ ?_); (focus kernel_rfl))
        | ((with_reducible refine callI_spec (hbf) (by with_unfolding_all rfl) ?_ ?_ ?_); (focus kernel_rfl); (focus kernel_rfl))
        | (with_reducible refine aw_label ?_)
        | ((with_reducible refine aw_rfM ?_ ?_); (focus kernel_rfl))
        | (with_reducible refine aw_skip ?_)
        | (with_reducible refine aw_exit ?_)
        | ((with_reducible refine aw_condM ?_ ?_); (focus kernel_rfl))
        | (with_reducible refine aw_ret ?_)
      ); simp only [↓avP, avQ, if_true, if_false, forall_const, beq_self_eq_true, eq_self, ne_eq, implies_true, reduceIte, Nat.reduceEqDiff, Nat.reduceAdd, Nat.reduceSub, Int.reduceToNat, Nat.reduceLeDiff, Nat.reduceLT, reduceCtorEq, Int.reduceEq, ↓hwpC.eq_def, ↓hopC.eq_def, ↓apKH.eq_def, ↓apH.eq_def, rqOk, lkC, delO, takes, whoMakes, headC, tailC, isTC, Option.some.injEq, Nat.zero_le, Nat.sub_zero, retQ, retL, resV, RetV, RetOk, SubL, intD_B, lotD_B, flowD_B, snocI, snocL, ty_3, ty_27, ty_4, ty_24, ty_43, ty_22, ty_33, hfw, hk, la', lb']; try simp (disch := omega) only [av_w, av_t1, av_tp, Int.toNat_natCast]))
  refine aw_loopI (fun s : Nat => ⟨[(2, .ptr 0 0), (3, .ptr 1 0), (6, .d (.sl 1 (intD 0) (a.map intD))), (8, .d (.sl 1 (intD 0) (b.map intD))), (10, vI (befF f f.lots.length)), (76, vI a.length), (77, vI s)], [(1, .cells 43 (dV (lotD x))), (0, .cells 24 (dV (flowD f)))], 2⟩)
    (fun s => s ≤ N) (fun s => N - s) 0 (Nat.zero_le _) (wk_of [(0, some 0), (1, some 1)] rfl rfl ?_ ?_) ?_
  · simp only [wkT, wkB, wkB1, subV, subVs, subD, subB, lkN_n, lkN_c, lkT_n, lkT_c, lkB_n, lkB_c, if_true, if_false, reduceIte, Nat.reduceEqDiff, true_and, and_true, and_self, inT, ofA]
    (repeat' (first | exact trivial | rfl | exact rfl | exact subVs_d _ _ | exact subVs_dm _ _ | exact subD_refl _ | refine And.intro ?_ ?_))
  · simp only [wkT, wkB, wkB1, subV, subVs, subD, subB, lkN_n, lkN_c, lkT_n, lkT_c, lkB_n, lkB_c, if_true, if_false, reduceIte, Nat.reduceEqDiff, true_and, and_true, and_self, inT, ofA]
    (repeat' (first | exact trivial | rfl | exact rfl | exact subVs_d _ _ | exact subVs_dm _ _ | exact subD_refl _ | refine And.intro ?_ ?_))
  intro s hsN
  rcases Nat.lt_or_ge s N with hlt | hge
  · have hd := ltd (show s < a.length by omega)
    have hfs := hfin hlt
    obtain ⟨u, hu⟩ : ∃ u, u = a.getD s 0 := ⟨_, rfl⟩
    rw [← hu] at hfs
    repeat' (first
      | (with_reducible refine aw_seq ?_)
      | ((with_reducible refine twoG_intro ?_ ?_) <;> intro hTw <;> first | (exact Bool.noConfusion hTw) | ((try simp only [hTw, Bool.not_true, Bool.not_false, Bool.true_and, Bool.false_and, Bool.and_true, Bool.and_false, Bool.true_or, Bool.false_or, Bool.or_true, Bool.or_false]); (first | (guard_hyp hTw : true = true; clear hTw) | (guard_hyp hTw : false = false; clear hTw) | (revert hTw; intro _))))
      | ((with_reducible refine two_intro ?_ ?_) <;> intro hTw <;> first | (exact Bool.noConfusion hTw) | ((first | (guard_hyp hTw : true = true; clear hTw) | (guard_hyp hTw : false = false; clear hTw) | (revert hTw; intro _))))
      | ((with_reducible refine And.intro ?_ ?_); (focus (first | omega | rfl | decide | grind)))
      | (with_reducible refine aw_block ?_)
      | (with_reducible refine aw_scope ?_)
      | ((first
          | ((with_reducible refine aw_regionA T_ok ?_ ?_); (focus kernel_rfl))
          | ((with_reducible refine aw_drawnA T_ok ?_ ?_ ?_ ?_); (focus kernel_rfl); (focus kernel_rfl); (focus (decide +kernel)))
          | ((with_reducible refine aw_drawnF T_ok ?_ ?_ ?_ ?_); (focus kernel_rfl); (focus kernel_rfl); (focus (decide +kernel)))
          | ((with_reducible refine aw_drawnC T_ok ?_ ?_ ?_ ?_); (focus kernel_rfl); (focus kernel_rfl); (focus (decide +kernel)))
          | (with_reducible refine aw_label ?_)
          | ((with_reducible refine aw_rfM ?_ ?_); (focus kernel_rfl))
          | (with_reducible refine aw_skip ?_)
          | (with_reducible refine aw_exit ?_)
          | ((with_reducible refine aw_condM ?_ ?_); (focus kernel_rfl))
          | (with_reducible refine aw_ret ?_)
        ); simp only [↓avP, avQ, if_true, if_false, forall_const, beq_self_eq_true, eq_self, ne_eq, implies_true, reduceIte, Nat.reduceEqDiff, Nat.reduceAdd, Nat.reduceSub, Int.reduceToNat, Nat.reduceLeDiff, Nat.reduceLT, reduceCtorEq, Int.reduceEq, ↓hwpC.eq_def, ↓hopC.eq_def, ↓apKH.eq_def, ↓apH.eq_def, rqOk, lkC, delO, takes, whoMakes, headC, tailC, isTC, Option.some.injEq, Nat.zero_le, Nat.sub_zero, retQ, retL, resV, RetV, RetOk, SubL, intD_B, lotD_B, flowD_B, snocI, snocL, ty_3, ty_27, ty_4, ty_24, ty_43, ty_22, ty_33, hd, ← hu]; try simp (disch := omega) only [av_w, av_t1, av_tp, Int.toNat_natCast]))
    refine aw_loopI (fun j : Nat => ⟨[(2, .ptr 0 0), (3, .ptr 1 0), (6, .d (.sl 1 (intD 0) (a.map intD))), (8, .d (.sl 1 (intD 0) (b.map intD))), (10, vI (befF f f.lots.length)), (11, vI s), (12, vI (if u ∈ x.inn.take j then befF f f.lots.length + x.perm.getD (x.inn.idxOf u) 0 else u)), (76, vI a.length), (77, vI s), (85, .d (.sl 1 (intD 0) (x.inn.map intD))), (86, vI x.inn.length), (87, vI j)], [(1, .cells 43 (dV (lotD x))), (0, .cells 24 (dV (flowD f)))], 2⟩)
      (fun j => j ≤ x.inn.length) (fun j => x.inn.length - j) 0 (Nat.zero_le _) (wk_of [(0, some 0), (1, some 1)] rfl rfl ?_ ?_) ?_
    · simp only [wkT, wkB, wkB1, subV, subVs, subD, subB, lkN_n, lkN_c, lkT_n, lkT_c, lkB_n, lkB_c, if_true, if_false, reduceIte, Nat.reduceEqDiff, true_and, and_true, and_self, inT, ofA]
      (repeat' (first | exact trivial | rfl | exact rfl | exact subVs_d _ _ | exact subVs_dm _ _ | exact subD_refl _ | refine And.intro ?_ ?_))
    · simp only [wkT, wkB, wkB1, subV, subVs, subD, subB, lkN_n, lkN_c, lkT_n, lkT_c, lkB_n, lkB_c, if_true, if_false, reduceIte, Nat.reduceEqDiff, true_and, and_true, and_self, inT, ofA]
      (repeat' (first | exact trivial | rfl | exact rfl | exact subVs_d _ _ | exact subVs_dm _ _ | exact subD_refl _ | refine And.intro ?_ ?_))
    intro j hj
    obtain ⟨v, hv⟩ : ∃ v, v = if u ∈ x.inn.take j then befF f f.lots.length + x.perm.getD (x.inn.idxOf u) 0 else u := ⟨_, rfl⟩
    rw [← hv]
    rcases Nat.lt_or_ge j x.inn.length with hjlt | hjge
    · have hd2 := ltd hjlt
      have hst := stepF_take (bef := befF f f.lots.length) (s := u) hg.nd hjlt
      rw [← hv] at hst
      have hpj := hpr _ (getD_mem (show j < x.perm.length by omega))
      by_cases he : x.inn.getD j 0 = u
      · have he' : (x.inn.getD j 0 == u) = true := by simpa using he
        rw [if_pos he] at hst
        repeat' (first
          | (with_reducible refine aw_seq ?_)
          | ((with_reducible refine twoG_intro ?_ ?_) <;> intro hTw <;> first | (exact Bool.noConfusion hTw) | ((try simp only [hTw, Bool.not_true, Bool.not_false, Bool.true_and, Bool.false_and, Bool.and_true, Bool.and_false, Bool.true_or, Bool.false_or, Bool.or_true, Bool.or_false]); (first | (guard_hyp hTw : true = true; clear hTw) | (guard_hyp hTw : false = false; clear hTw) | (revert hTw; intro _))))
          | ((with_reducible refine two_intro ?_ ?_) <;> intro hTw <;> first | (exact Bool.noConfusion hTw) | ((first | (guard_hyp hTw : true = true; clear hTw) | (guard_hyp hTw : false = false; clear hTw) | (revert hTw; intro _))))
          | ((with_reducible refine And.intro ?_ ?_); (focus (first | omega | rfl | decide | grind)))
          | (with_reducible refine aw_block ?_)
          | (with_reducible refine aw_scope ?_)
          | ((first
              | ((with_reducible refine aw_regionA T_ok ?_ ?_); (focus kernel_rfl))
              | ((with_reducible refine aw_drawnA T_ok ?_ ?_ ?_ ?_); (focus kernel_rfl); (focus kernel_rfl); (focus (decide +kernel)))
              | ((with_reducible refine aw_drawnF T_ok ?_ ?_ ?_ ?_); (focus kernel_rfl); (focus kernel_rfl); (focus (decide +kernel)))
              | ((with_reducible refine aw_drawnC T_ok ?_ ?_ ?_ ?_); (focus kernel_rfl); (focus kernel_rfl); (focus (decide +kernel)))
              | (with_reducible refine aw_label ?_)
              | ((with_reducible refine aw_rfM ?_ ?_); (focus kernel_rfl))
              | (with_reducible refine aw_skip ?_)
              | (with_reducible refine aw_exit ?_)
              | ((with_reducible refine aw_condM ?_ ?_); (focus kernel_rfl))
              | (with_reducible refine aw_ret ?_)
            ); simp only [↓avP, avQ, if_true, if_false, forall_const, beq_self_eq_true, eq_self, ne_eq, implies_true, reduceIte, Nat.reduceEqDiff, Nat.reduceAdd, Nat.reduceSub, Int.reduceToNat, Nat.reduceLeDiff, Nat.reduceLT, reduceCtorEq, Int.reduceEq, ↓hwpC.eq_def, ↓hopC.eq_def, ↓apKH.eq_def, ↓apH.eq_def, rqOk, lkC, delO, takes, whoMakes, headC, tailC, isTC, Option.some.injEq, Nat.zero_le, Nat.sub_zero, retQ, retL, resV, RetV, RetOk, SubL, intD_B, lotD_B, flowD_B, snocI, snocL, ty_3, ty_27, ty_4, ty_24, ty_43, ty_22, ty_33, hd2, he', ← hu]; try simp (disch := omega) only [av_w, av_t1, av_tp, Int.toNat_natCast]))
        refine ⟨j + 1, by omega, by dsimp only; omega, wk_of [(0, some 0), (1, some 1)] rfl rfl ?_ ?_⟩
        · simp only [wkT, wkB, wkB1, subV, subVs, subD, subB, lkN_n, lkN_c, lkT_n, lkT_c, lkB_n, lkB_c, if_true, if_false, reduceIte, Nat.reduceEqDiff, true_and, and_true, and_self, inT, ofA]
          rw [hst]
          (repeat' (first | exact trivial | rfl | exact rfl | exact subVs_d _ _ | exact subVs_dm _ _ | exact subD_refl _ | refine And.intro ?_ ?_))
        · simp only [wkT, wkB, wkB1, subV, subVs, subD, subB, lkN_n, lkN_c, lkT_n, lkT_c, lkB_n, lkB_c, if_true, if_false, reduceIte, Nat.reduceEqDiff, true_and, and_true, and_self, inT, ofA]
          (repeat' (first | exact trivial | rfl | exact rfl | exact subVs_d _ _ | exact subVs_dm _ _ | exact subD_refl _ | refine And.intro ?_ ?_))
      · have he' : (x.inn.getD j 0 == u) = false := by simpa using he
        rw [if_neg he] at hst
        repeat' (first
          | (with_reducible refine aw_seq ?_)
          | ((with_reducible refine twoG_intro ?_ ?_) <;> intro hTw <;> first | (exact Bool.noConfusion hTw) | ((try simp only [hTw, Bool.not_true, Bool.not_false, Bool.true_and, Bool.false_and, Bool.and_true, Bool.and_false, Bool.true_or, Bool.false_or, Bool.or_true, Bool.or_false]); (first | (guard_hyp hTw : true = true; clear hTw) | (guard_hyp hTw : false = false; clear hTw) | (revert hTw; intro _))))
          | ((with_reducible refine two_intro ?_ ?_) <;> intro hTw <;> first | (exact Bool.noConfusion hTw) | ((first | (guard_hyp hTw : true = true; clear hTw) | (guard_hyp hTw : false = false; clear hTw) | (revert hTw; intro _))))
          | ((with_reducible refine And.intro ?_ ?_); (focus (first | omega | rfl | decide | grind)))
          | (with_reducible refine aw_block ?_)
          | (with_reducible refine aw_scope ?_)
          | ((first
              | ((with_reducible refine aw_regionA T_ok ?_ ?_); (focus kernel_rfl))
              | ((with_reducible refine aw_drawnA T_ok ?_ ?_ ?_ ?_); (focus kernel_rfl); (focus kernel_rfl); (focus (decide +kernel)))
              | ((with_reducible refine aw_drawnF T_ok ?_ ?_ ?_ ?_); (focus kernel_rfl); (focus kernel_rfl); (focus (decide +kernel)))
              | ((with_reducible refine aw_drawnC T_ok ?_ ?_ ?_ ?_); (focus kernel_rfl); (focus kernel_rfl); (focus (decide +kernel)))
              | (with_reducible refine aw_label ?_)
              | ((with_reducible refine aw_rfM ?_ ?_); (focus kernel_rfl))
              | (with_reducible refine aw_skip ?_)
              | (with_reducible refine aw_exit ?_)
              | ((with_reducible refine aw_condM ?_ ?_); (focus kernel_rfl))
              | (with_reducible refine aw_ret ?_)
            ); simp only [↓avP, avQ, if_true, if_false, forall_const, beq_self_eq_true, eq_self, ne_eq, implies_true, reduceIte, Nat.reduceEqDiff, Nat.reduceAdd, Nat.reduceSub, Int.reduceToNat, Nat.reduceLeDiff, Nat.reduceLT, reduceCtorEq, Int.reduceEq, ↓hwpC.eq_def, ↓hopC.eq_def, ↓apKH.eq_def, ↓apH.eq_def, rqOk, lkC, delO, takes, whoMakes, headC, tailC, isTC, Option.some.injEq, Nat.zero_le, Nat.sub_zero, retQ, retL, resV, RetV, RetOk, SubL, intD_B, lotD_B, flowD_B, snocI, snocL, ty_3, ty_27, ty_4, ty_24, ty_43, ty_22, ty_33, hd2, he', ← hu]; try simp (disch := omega) only [av_w, av_t1, av_tp, Int.toNat_natCast]))
        refine ⟨j + 1, by omega, by dsimp only; omega, wk_of [(0, some 0), (1, some 1)] rfl rfl ?_ ?_⟩
        · simp only [wkT, wkB, wkB1, subV, subVs, subD, subB, lkN_n, lkN_c, lkT_n, lkT_c, lkB_n, lkB_c, if_true, if_false, reduceIte, Nat.reduceEqDiff, true_and, and_true, and_self, inT, ofA]
          rw [hst]
          (repeat' (first | exact trivial | rfl | exact rfl | exact subVs_d _ _ | exact subVs_dm _ _ | exact subD_refl _ | refine And.intro ?_ ?_))
        · simp only [wkT, wkB, wkB1, subV, subVs, subD, subB, lkN_n, lkN_c, lkT_n, lkT_c, lkB_n, lkB_c, if_true, if_false, reduceIte, Nat.reduceEqDiff, true_and, and_true, and_self, inT, ofA]
          (repeat' (first | exact trivial | rfl | exact rfl | exact subVs_d _ _ | exact subVs_dm _ _ | exact subD_refl _ | refine And.intro ?_ ?_))
    · obtain rfl : j = x.inn.length := by omega
      have hd2 := ged (Nat.le_refl x.inn.length)
      rw [List.take_length] at hv
      have hfs' : (b.getD s 0 != v) = false := by
        rw [hfs, stepF, ← hv]; simp
      repeat' (first
        | (with_reducible refine aw_seq ?_)
        | ((with_reducible refine twoG_intro ?_ ?_) <;> intro hTw <;> first | (exact Bool.noConfusion hTw) | ((try simp only [hTw, Bool.not_true, Bool.not_false, Bool.true_and, Bool.false_and, Bool.and_true, Bool.and_false, Bool.true_or, Bool.false_or, Bool.or_true, Bool.or_false]); (first | (guard_hyp hTw : true = true; clear hTw) | (guard_hyp hTw : false = false; clear hTw) | (revert hTw; intro _))))
        | ((with_reducible refine two_intro ?_ ?_) <;> intro hTw <;> first | (exact Bool.noConfusion hTw) | ((first | (guard_hyp hTw : true = true; clear hTw) | (guard_hyp hTw : false = false; clear hTw) | (revert hTw; intro _))))
        | ((with_reducible refine And.intro ?_ ?_); (focus (first | omega | rfl | decide | grind)))
        | (with_reducible refine aw_block ?_)
        | (with_reducible refine aw_scope ?_)
        | ((first
            | ((with_reducible refine aw_regionA T_ok ?_ ?_); (focus kernel_rfl))
            | ((with_reducible refine aw_drawnA T_ok ?_ ?_ ?_ ?_); (focus kernel_rfl); (focus kernel_rfl); (focus (decide +kernel)))
            | ((with_reducible refine aw_drawnF T_ok ?_ ?_ ?_ ?_); (focus kernel_rfl); (focus kernel_rfl); (focus (decide +kernel)))
            | ((with_reducible refine aw_drawnC T_ok ?_ ?_ ?_ ?_); (focus kernel_rfl); (focus kernel_rfl); (focus (decide +kernel)))
            | (with_reducible refine aw_label ?_)
            | ((with_reducible refine aw_rfM ?_ ?_); (focus kernel_rfl))
            | (with_reducible refine aw_skip ?_)
            | (with_reducible refine aw_exit ?_)
            | ((with_reducible refine aw_condM ?_ ?_); (focus kernel_rfl))
            | (with_reducible refine aw_ret ?_)
          ); simp only [↓avP, avQ, if_true, if_false, forall_const, beq_self_eq_true, eq_self, ne_eq, implies_true, reduceIte, Nat.reduceEqDiff, Nat.reduceAdd, Nat.reduceSub, Int.reduceToNat, Nat.reduceLeDiff, Nat.reduceLT, reduceCtorEq, Int.reduceEq, ↓hwpC.eq_def, ↓hopC.eq_def, ↓apKH.eq_def, ↓apH.eq_def, rqOk, lkC, delO, takes, whoMakes, headC, tailC, isTC, Option.some.injEq, Nat.zero_le, Nat.sub_zero, retQ, retL, resV, RetV, RetOk, SubL, intD_B, lotD_B, flowD_B, snocI, snocL, ty_3, ty_27, ty_4, ty_24, ty_43, ty_22, ty_33, hd2, hfs']; try simp (disch := omega) only [av_w, av_t1, av_tp, Int.toNat_natCast]))
      refine ⟨s + 1, by omega, by dsimp only; omega, wk_of [(0, some 0), (1, some 1)] rfl rfl ?_ ?_⟩
      · simp only [wkT, wkB, wkB1, subV, subVs, subD, subB, lkN_n, lkN_c, lkT_n, lkT_c, lkB_n, lkB_c, if_true, if_false, reduceIte, Nat.reduceEqDiff, true_and, and_true, and_self, inT, ofA]
        (repeat' (first | exact trivial | rfl | exact rfl | exact subVs_d _ _ | exact subVs_dm _ _ | exact subD_refl _ | refine And.intro ?_ ?_))
      · simp only [wkT, wkB, wkB1, subV, subVs, subD, subB, lkN_n, lkN_c, lkT_n, lkT_c, lkB_n, lkB_c, if_true, if_false, reduceIte, Nat.reduceEqDiff, true_and, and_true, and_self, inT, ofA]
        (repeat' (first | exact trivial | rfl | exact rfl | exact subVs_d _ _ | exact subVs_dm _ _ | exact subD_refl _ | refine And.intro ?_ ?_))
  · obtain rfl : s = N := by omega
    have hd := ged (show a.length ≤ s by omega)
    repeat' (first
      | (with_reducible refine aw_seq ?_)
      | ((with_reducible refine twoG_intro ?_ ?_) <;> intro hTw <;> first | (exact Bool.noConfusion hTw) | ((try simp only [hTw, Bool.not_true, Bool.not_false, Bool.true_and, Bool.false_and, Bool.and_true, Bool.and_false, Bool.true_or, Bool.false_or, Bool.or_true, Bool.or_false]); (first | (guard_hyp hTw : true = true; clear hTw) | (guard_hyp hTw : false = false; clear hTw) | (revert hTw; intro _))))
      | ((with_reducible refine two_intro ?_ ?_) <;> intro hTw <;> first | (exact Bool.noConfusion hTw) | ((first | (guard_hyp hTw : true = true; clear hTw) | (guard_hyp hTw : false = false; clear hTw) | (revert hTw; intro _))))
      | ((with_reducible refine And.intro ?_ ?_); (focus (first | omega | rfl | decide | grind)))
      | (with_reducible refine aw_block ?_)
      | (with_reducible refine aw_scope ?_)
      | ((first
          | ((with_reducible refine aw_regionA T_ok ?_ ?_); (focus kernel_rfl))
          | ((with_reducible refine aw_drawnA T_ok ?_ ?_ ?_ ?_); (focus kernel_rfl); (focus kernel_rfl); (focus (decide +kernel)))
          | ((with_reducible refine aw_drawnF T_ok ?_ ?_ ?_ ?_); (focus kernel_rfl); (focus kernel_rfl); (focus (decide +kernel)))
          | ((with_reducible refine aw_drawnC T_ok ?_ ?_ ?_ ?_); (focus kernel_rfl); (focus kernel_rfl); (focus (decide +kernel)))
          | (with_reducible refine aw_label ?_)
          | ((with_reducible refine aw_rfM ?_ ?_); (focus kernel_rfl))
          | (with_reducible refine aw_skip ?_)
          | (with_reducible refine aw_exit ?_)
          | ((with_reducible refine aw_condM ?_ ?_); (focus kernel_rfl))
          | (with_reducible refine aw_ret ?_)
        ); simp only [↓avP, avQ, if_true, if_false, forall_const, beq_self_eq_true, eq_self, ne_eq, implies_true, reduceIte, Nat.reduceEqDiff, Nat.reduceAdd, Nat.reduceSub, Int.reduceToNat, Nat.reduceLeDiff, Nat.reduceLT, reduceCtorEq, Int.reduceEq, ↓hwpC.eq_def, ↓hopC.eq_def, ↓apKH.eq_def, ↓apH.eq_def, rqOk, lkC, delO, takes, whoMakes, headC, tailC, isTC, Option.some.injEq, Nat.zero_le, Nat.sub_zero, retQ, retL, resV, RetV, RetOk, SubL, intD_B, lotD_B, flowD_B, snocI, snocL, ty_3, ty_27, ty_4, ty_24, ty_43, ty_22, ty_33, hd]; try simp (disch := omega) only [av_w, av_t1, av_tp, Int.toNat_natCast]))
    exact Sub.refl _
end Go.Proofs.Ytfndjciojljkfaa


namespace Go.Proofs.Ytfndjciojljkfaa
set_option linter.unusedSimpArgs false
set_option linter.unusedVariables false
theorem Try.own : ownKnob Try.prog.godebug = none := by kernel_rfl
theorem Try.laidOut : laidOutB Try.prog = true := by kernel_rfl
end Go.Proofs.Ytfndjciojljkfaa


namespace Go.Proofs.Ytfndjciojljkfaa
set_option linter.unusedSimpArgs false
set_option linter.unusedVariables false
open Go.RowKit
def grtB (coal : List Int) (m : Int) (n : Nat) : Bool := decide ((n : Int) ∈ coal) || decide ((n : Int) = m)
/-- the offices below k in a coalition, or m -/
def grtL (coal : List Int) (m : Int) (k : Nat) : List Int := ((List.range k).filter (grtB coal m)).map fun n : Nat => (n : Int)
def allO (k : Nat) : List Int := (List.range k).map fun n : Nat => (n : Int)
theorem grtL_succ (coal : List Int) (m : Int) (k : Nat) : grtL coal m (k + 1) = if grtB coal m k = true then grtL coal m k ++ [(k : Int)] else grtL coal m k := by
  unfold grtL
  rw [List.range_succ, List.filter_append, List.map_append]
  by_cases h : grtB coal m k = true <;> simp [h]
theorem allO_succ (k : Nat) : allO (k + 1) = allO k ++ [(k : Int)] := by simp [allO, List.range_succ]
theorem allO_len (k : Nat) : (allO k).length = k := by simp [allO]
theorem grtL_len (coal : List Int) (m : Int) (k : Nat) : (grtL coal m k).length ≤ k := by
  unfold grtL
  rw [List.length_map]
  exact Nat.le_trans (List.length_filter_le _ _) (by simp)
theorem mem_grtL {coal : List Int} {m : Int} {k : Nat} {x : Int} : x ∈ grtL coal m k ↔ ∃ n : Nat, n < k ∧ x = n ∧ (x ∈ coal ∨ x = m) := by
  unfold grtL
  rw [List.mem_map]
  constructor
  · rintro ⟨n, hn, rfl⟩
    rw [List.mem_filter, List.mem_range] at hn
    refine ⟨n, hn.1, rfl, ?_⟩
    have := hn.2
    unfold grtB at this
    simpa using this
  · rintro ⟨n, hn, rfl, h⟩
    refine ⟨n, List.mem_filter.2 ⟨List.mem_range.2 hn, ?_⟩, rfl⟩
    unfold grtB
    simpa using h
theorem mem_allO {k : Nat} {x : Int} : x ∈ allO k ↔ ∃ n : Nat, n < k ∧ x = n := by
  unfold allO
  rw [List.mem_map]
  constructor
  · rintro ⟨n, hn, rfl⟩; exact ⟨n, List.mem_range.1 hn, rfl⟩
  · rintro ⟨n, hn, rfl⟩; exact ⟨n, List.mem_range.2 hn, rfl⟩
theorem coalB_of {l : List Int} (h1 : ∀ x ∈ l, officeB x = true) (h2 : l.Pairwise (· < ·)) : coalB l = true := by
  unfold coalB
  rw [List.all_eq_true]
  intro k hk
  have hk' : k < l.length := by simpa using hk
  have e1 : l.getD k 0 = l[k] := by simp [List.getD, hk']
  have h3 := h1 _ (List.getElem_mem hk')
  rw [e1, h3]
  rcases Nat.eq_zero_or_pos k with h0 | h0
  · simp [h0]
  · have e2 : l.getD (k - 1) 0 = l[k - 1] := by simp [List.getD, show k - 1 < l.length by omega]
    rw [e2]
    have := List.pairwise_iff_getElem.1 h2 (k - 1) k (by omega) hk' (by omega)
    simp
    omega
theorem range_lt (k : Nat) : (List.range k).Pairwise (· < ·) := List.pairwise_lt_range
theorem grtL_coal (coal : List Int) (m : Int) : coalB (grtL coal m 24) = true := by
  refine coalB_of (fun x hx => ?_) ?_
  · obtain ⟨n, h1, h2, _⟩ := mem_grtL.1 hx
    unfold officeB
    simp
    omega
  · unfold grtL
    rw [List.pairwise_map]
    exact ((range_lt 24).sublist List.filter_sublist).imp (fun h => by omega)
theorem allO_coal : coalB (allO 24) = true := by
  refine coalB_of (fun x hx => ?_) ?_
  · obtain ⟨n, h1, h2⟩ := mem_allO.1 hx
    unfold officeB
    simp
    omega
  · unfold allO
    rw [List.pairwise_map]
    exact (range_lt 24).imp (fun h => by omega)
section
variable {f : FlowP} {lines : List (List Int)} {coal : List Int}
theorem view_ok (hc : checkF f = 0) (hk : knownF f = true) (hl : linesB lines f.lots.length = true) (ho : coalB coal = true) : errV f lines coal = 0 ∧ viewR f lines coal = ⟨f.senders, viewAt f lines coal f.lots.length⟩ := by
  have : errV f lines coal = 0 := by
    unfold errV
    rw [if_neg (by simpa using hc), if_pos (by rw [hk, hl, ho]; rfl)]
  exact ⟨this, by rw [viewR, if_pos this]⟩
theorem viewAt_get {k : Nat} (h : k < f.lots.length) : (viewAt f lines coal f.lots.length).getD k default = viewL f lines coal k := by
  unfold viewAt
  rw [List.getD, List.getElem?_map, List.getElem?_range h]
  rfl
theorem viewL_inn (k : Nat) : (viewL f lines coal k).inn = (f.lots.getD k default).inn := by
  unfold viewL; split <;> rfl
theorem view_inns : ∀ k, k ≤ f.lots.length → ((viewAt f lines coal f.lots.length).take k).map (·.inn) = (f.lots.take k).map (·.inn) := by
  intro k hk
  refine List.ext_getElem? fun i => ?_
  rw [List.getElem?_map, List.getElem?_map, List.getElem?_take, List.getElem?_take]
  by_cases hi : i < k
  · rw [if_pos hi, if_pos hi]
    have e1 : (viewAt f lines coal f.lots.length)[i]? = some (viewL f lines coal i) := by
      unfold viewAt; rw [List.getElem?_map, List.getElem?_range (by omega)]; rfl
    have e2 : f.lots[i]? = some (f.lots.getD i default) := by rw [List.getD, List.getElem?_eq_getElem (by omega)]; rfl
    rw [e1, e2, Option.map_some, Option.map_some, viewL_inn]
  · rw [if_neg hi, if_neg hi]
abbrev vF (f : FlowP) (lines : List (List Int)) (coal : List Int) : FlowP := ⟨f.senders, viewAt f lines coal f.lots.length⟩
theorem view_bef {k : Nat} (hk : k ≤ f.lots.length) : befF (vF f lines coal) k = befF f k := by
  unfold befF
  have := congrArg (fun l : List (List Int) => (l.map List.length).sum) (view_inns (f := f) (lines := lines) (coal := coal) k hk)
  simp only [List.map_map] at this
  have e : (List.length ∘ fun x : LotP => x.inn) = fun x : LotP => x.inn.length := rfl
  rw [e] at this
  show f.senders + _ = f.senders + _
  rw [this]
theorem view_gone {k : Nat} (hk : k ≤ f.lots.length) : goneF (vF f lines coal) k = goneF f k := by
  unfold goneF
  rw [List.flatMap_def, List.flatMap_def, view_inns k hk]
theorem view_check (hc : checkF f = 0) : checkF (vF f lines coal) = 0 := by
  obtain ⟨z1, z2, z3, z4, z5⟩ := checkF_zero hc
  have hl : (vF f lines coal).lots.length = f.lots.length := viewAt_len _ _ _ _
  unfold checkF
  rw [hl, view_bef (Nat.le_refl _), if_neg (by show ¬ (64 < f.senders ∨ _); omega), if_neg (by show ¬ f.senders < 0; omega), if_pos]
  unfold validF
  rw [hl, List.all_eq_true]
  intro i hi
  have hil : i < f.lots.length := by simpa using hi
  have hg := goodL_at hc hil
  unfold okAt
  rw [view_bef (by omega), view_gone (by omega), viewAt_get hil, goodL_iff]
  unfold viewL
  split
  · exact hg
  · exact ⟨hg.ne, hg.nd, hg.fr, fun h => by simp at h, fun _ => rfl⟩
theorem view_ends : endsF (vF f lines coal) = endsF f := by
  have hl : (vF f lines coal).lots.length = f.lots.length := viewAt_len _ _ _ _
  unfold endsF
  rw [hl, view_bef (Nat.le_refl _), view_gone (Nat.le_refl _)]
theorem sees_at (hl : linesB lines f.lots.length = true) {k : Nat} (hk : k < f.lots.length) : ∀ x ∈ lines.getD k [], officeB x = true := by
  unfold linesB at hl
  simp only [Bool.and_eq_true, decide_eq_true_eq, List.all_eq_true] at hl
  have hkl : k < lines.length := by omega
  have e : lines.getD k [] = lines[k] := by simp [List.getD, hkl]
  have := hl.1 _ (List.getElem_mem hkl)
  unfold lineB diffB at this
  simp only [Bool.and_eq_true, List.all_eq_true] at this
  rw [e]
  exact this.2.2
theorem view_all (hl : linesB lines f.lots.length = true) : vF f lines (allO 24) = f := by
  have : viewAt f lines (allO 24) f.lots.length = f.lots := by
    refine List.ext_getElem? fun i => ?_
    rcases Nat.lt_or_ge i f.lots.length with hi | hi
    · have e1 : (viewAt f lines (allO 24) f.lots.length)[i]? = some (viewL f lines (allO 24) i) := by
        unfold viewAt; rw [List.getElem?_map, List.getElem?_range (by omega)]; rfl
      have e2 : f.lots[i]? = some (f.lots.getD i default) := by rw [List.getD, List.getElem?_eq_getElem hi]; rfl
      rw [e1, e2]
      unfold viewL
      rw [if_pos]
      unfold seesB
      rw [List.all_eq_true]
      intro x hx
      have := sees_at hl hi x hx
      unfold officeB at this
      simp at this
      exact decide_eq_true (mem_allO.2 ⟨x.toNat, by omega, by omega⟩)
    · rw [List.getElem?_eq_none (by rw [viewAt_len]; exact hi), List.getElem?_eq_none hi]
  show FlowP.mk f.senders _ = f
  rw [this]
theorem sees_more (hl : linesB lines f.lots.length = true) {m : Int} {k : Nat} (hk : k < f.lots.length) (h : seesB lines coal k = true) : seesB lines (grtL coal m 24) k = true := by
  unfold seesB at h ⊢
  rw [List.all_eq_true] at h ⊢
  intro x hx
  have h1 := h x hx
  have h2 := sees_at hl hk x hx
  unfold officeB at h2
  simp at h1 h2
  exact decide_eq_true (mem_grtL.2 ⟨x.toNat, by omega, by omega, .inl h1⟩)
theorem okF_vF (hf : OkF f) : OkF (vF f lines coal) := by
  refine ⟨hf.s, by rw [viewAt_len]; exact hf.l, fun x hx => ?_⟩
  obtain ⟨k, _, rfl⟩ := List.mem_map.1 hx
  unfold viewL
  split
  · exact hf.at k
  · exact ⟨(hf.at k).inn, by simp, (hf.at k).li, by simp⟩
end
end Go.Proofs.Ytfndjciojljkfaa

