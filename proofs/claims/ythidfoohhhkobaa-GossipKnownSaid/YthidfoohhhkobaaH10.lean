import Derived.Test.YthidfoohhhkobaaH9
namespace Go.Proofs.Ythidfoohhhkobaa
set_option linter.unusedSimpArgs false
set_option linter.unusedVariables false
open Go.RowKit
structure NetP where
  queue : List Pk
  apart : List Pr
  deriving DecidableEq
def netD (x : NetP) : List D := [.sl 3 (pkD default) (x.queue.map pkD), .sl 2 (prD default) (x.apart.map prD)]
theorem netD_len (x : NetP) : (dV (netD x)).length = 2 := rfl
theorem netD_take (x : NetP) : (dV (netD x)).take 2 = dV (netD x) := rfl
theorem netD_ln (x : NetP) : (netD x).length = 2 := rfl
theorem netD_hd (x : NetP) : (dV (netD x)).head? = some (.d (.sl 3 (pkD default) (x.queue.map pkD))) := rfl
theorem netD_ic (x : NetP) : (dV (netD x)).length = 2 := rfl
theorem netD_d1 (x : NetP) : (dV (netD x)).drop 1 = [.d (.sl 2 (prD default) (x.apart.map prD))] := rfl
set_option linter.defProp false in
def netD_B := And.intro @netD_len ( And.intro @netD_take ( And.intro @netD_hd ( And.intro @netD_ln ( And.intro @netD_ic (@netD_d1)))))
set_option maxRecDepth 100000
set_option maxHeartbeats 4000000
theorem prD_m (x : Pr) : ((prD x).take 2).map (fun d => [d]) = [[cI x.1], [cI x.2]] := rfl
def mm (a b : Int) : Pr := (if b < a then b else a, if b > a then b else a)
theorem nbetween_spec (a b : Int) : Spec Try.prog 68 [aI a, aI b] (.r1 (.agg (prD (mm a b)))) := by
  refine spec_of T_ok Try.func68 (by dsimp only [Try.f68]) rfl rfl (by simp) fun w F => ?_
  repeat' (first | (with_reducible refine aw_seq ?_) | ((with_reducible refine And.intro ?_ ?_); (focus (first | omega | rfl))) | ((first | ((with_reducible refine aw_regionA T_ok ?_ ?_); kernel_rfl) | (with_reducible refine aw_ret ?_) ); simp only [↓avP, avQ, avR, forall_const, implies_true, Nat.reduceEqDiff, Nat.reduceAdd, Int.reduceToNat, Nat.reduceLeDiff, reduceCtorEq, avS, prD_B, ty_3, ty_106, ty_29]; try simp (disch := omega) only [av_w, av_t1, av_tp, Int.toNat_natCast]))
  exact Sub.refl _
def linkB (p : Pr) : Bool := decide (p.1 ≥ 0) && decide (p.1 < p.2) && decide (p.2 < 24)
theorem nvalid_spec (p : Pr) : Spec Try.prog 53 [.agg (prD p)] (.r1 (aB (linkB p))) := by
  refine spec_of T_ok Try.func53 (by dsimp only [Try.f53]) rfl rfl (by simp) fun w F => ?_
  repeat' (first | (with_reducible refine aw_seq ?_) | ((with_reducible refine And.intro ?_ ?_); (focus (first | omega | rfl))) | ((first | ((with_reducible refine aw_regionA T_ok ?_ ?_); kernel_rfl) | (with_reducible refine aw_ret ?_) ); simp only [↓avP, avQ, avR, forall_const, implies_true, Nat.reduceEqDiff, Nat.reduceAdd, Int.reduceToNat, Nat.reduceLeDiff, reduceCtorEq, avS, prD_B, ty_3, ty_106, ty_29]; try simp (disch := omega) only [av_w, av_t1, av_tp, Int.toNat_natCast]))
  all_goals first | exact Sub.refl _ | exact Sub.of_eq (by simp [linkB])
def packetB (p : Pk) : Bool := linkB (mm p.frm p.to_) && decide ((p.data.length : Int) ≤ 1048576)
theorem npacket_spec (p : Pk) : Spec Try.prog 52 [aPk p] (.r1 (aB (packetB p))) := by
  refine spec_of T_ok Try.func52 (by dsimp only [Try.f52]) rfl rfl (by simp) fun w F => ?_
  repeat' (first | (with_reducible refine aw_seq ?_) | ((first | ((with_reducible refine aw_regionA T_ok ?_ ?_); kernel_rfl) | ((with_reducible refine callI_spec (nbetween_spec _ _) (by repeat' (first | exact ta_n | refine ta_d ?_)) ?_ ?_ ?_); kernel_rfl; kernel_rfl) | ((with_reducible refine callI_spec (nvalid_spec _) (by repeat' (first | exact ta_n | refine ta_a ?_)) ?_ ?_ ?_); kernel_rfl; kernel_rfl) | (with_reducible refine aw_ret ?_) ); simp only [↓avP, avQ, avR, forall_const, implies_true, Nat.reduceEqDiff, reduceCtorEq, avS, pkD_B, ty_3, ty_63, ty_23]; try simp (disch := omega) only [av_w, av_t1, av_tp, Int.toNat_natCast]))
  all_goals first | exact Sub.refl _ | exact Sub.of_eq (by simp [packetB])
theorem ncheck1_spec (p : Pk) : Spec Try.prog 51 [aPk p] (.r1 (aB (!packetB p))) := by
  refine spec_of T_ok Try.func51 (by dsimp only [Try.f51]) rfl rfl (by simp) fun w F => ?_
  repeat' (first | (with_reducible refine aw_seq ?_) | ((first | ((with_reducible refine aw_regionA T_ok ?_ ?_); kernel_rfl) | ((with_reducible refine callI_spec (npacket_spec _) (by repeat' (first | exact ta_n | refine ta_a ?_)) ?_ ?_ ?_); kernel_rfl; kernel_rfl) | (with_reducible refine aw_ret ?_) ); simp only [↓avP, avQ, avR, forall_const, implies_true, Nat.reduceEqDiff, Nat.reduceLeDiff, reduceCtorEq, avS, pkD_B, ty_63]; try simp (disch := omega) only [av_w, av_t1, av_tp, Int.toNat_natCast]))
  all_goals exact Sub.refl _
def apartAt (l : List Pr) (k : Nat) : Bool := linkB (l.getD k default) && (decide (k = 0) || decide (cmpPr (l.getD (k - 1) default) (l.getD k default) < 0))
def apartB (l : List Pr) : Bool := (List.range l.length).all (apartAt l)
def netChk (n : NetP) : Int := if n.queue.length > 4096 ∨ n.queue.any (fun p => !packetB p) = true then 60 else if apartB n.apart = true then 0 else 60
theorem fnPk (l : List Pk) : ∀ asA r, FnM aPk (fun p => !packetB p) l asA r → Spec Try.prog 51 asA r := by
  rintro asA r ⟨x, _, rfl, rfl⟩
  exact ncheck1_spec x
theorem ncheck_spec (n : NetP) (hq : n.queue.length ≤ 140737488351232) (ha : n.apart.length ≤ 140737488351232) : Spec Try.prog 30 [.agg (netD n)] (.r1 (aI (netChk n))) := by
  refine spec_of T_ok Try.func30 (by dsimp only [Try.f30]) rfl rfl (by simp) fun w F => ?_
  by_cases hb : n.queue.length > 4096
  · have hd : decide ((n.queue.length : Int) > 4096) = true := decide_eq_true (by omega)
    repeat' (first | (with_reducible refine aw_seq ?_) | ((with_reducible refine two_intro ?_ ?_) <;> intro h <;> first | contradiction | (((guard_hyp h : true = true; clear h)))) | ((first | ((with_reducible refine aw_regionA T_ok ?_ ?_); kernel_rfl) | ((with_reducible refine callK_fz (pks_contains n.queue (fun p => !packetB p) hq) rfl ?_ ?_ ?_); (focus (repeat' (first | (exact FzA.nil) | (exact Fz.d rfl) | (refine FzA.one ?_ ?_) | (refine Fz.fc (by kernel_rfl) (fnPk n.queue)))); done); kernel_rfl) | ((with_reducible refine aw_condM ?_ ?_); kernel_rfl) | (with_reducible refine aw_ret ?_) ); simp only [↓avP, avQ, avR, forall_const, implies_true, Nat.reduceEqDiff, Nat.reduceAdd, reduceCtorEq, avS, netD_B, ty_26, ty_29, hd]; try simp (disch := omega) only [av_w, av_t1, av_tp, Int.toNat_natCast]))
    exact Sub.of_eq (congrArg aI (by unfold netChk; rw [if_pos (.inl hb)]))
  · have hd : decide ((n.queue.length : Int) > 4096) = false := decide_eq_false (by omega)
    cases hc : n.queue.any (fun p => !packetB p) with
    | true =>
      repeat' (first | (with_reducible refine aw_seq ?_) | ((with_reducible refine two_intro ?_ ?_) <;> intro h <;> first | contradiction | ((first | (guard_hyp h : true = true; clear h) | (guard_hyp h : false = false; clear h)))) | (with_reducible refine aw_block ?_) | ((first | ((with_reducible refine aw_regionA T_ok ?_ ?_); kernel_rfl) | ((with_reducible refine callK_fz (pks_contains n.queue (fun p => !packetB p) hq) rfl ?_ ?_ ?_); (focus (repeat' (first | (exact FzA.nil) | (exact Fz.d rfl) | (refine FzA.one ?_ ?_) | (refine Fz.fc (by kernel_rfl) (fnPk n.queue)))); done); kernel_rfl) | (with_reducible refine aw_skip ?_) | ((with_reducible refine aw_condM ?_ ?_); kernel_rfl) | (with_reducible refine aw_ret ?_) ); simp only [↓avP, avQ, avR, forall_const, implies_true, Nat.reduceEqDiff, Nat.reduceAdd, reduceCtorEq, avS, netD_B, ty_26, ty_27, ty_29, hd, hc]; try simp (disch := omega) only [av_w, av_t1, av_tp, Int.toNat_natCast]))
      exact Sub.of_eq (congrArg aI (by unfold netChk; rw [if_pos (.inr hc)]))
    | false =>
      have hn : ¬ (n.queue.length > 4096 ∨ n.queue.any (fun p => !packetB p) = true) := by rw [hc]; simp; omega
      repeat' (first | (with_reducible refine aw_seq ?_) | ((with_reducible refine two_intro ?_ ?_) <;> intro h <;> first | contradiction | ((first | (guard_hyp h : true = true; clear h) | (guard_hyp h : false = false; clear h)))) | (with_reducible refine aw_block ?_) | ((first | ((with_reducible refine aw_regionA T_ok ?_ ?_); kernel_rfl) | ((with_reducible refine callK_fz (pks_contains n.queue (fun p => !packetB p) hq) rfl ?_ ?_ ?_); (focus (repeat' (first | (exact FzA.nil) | (exact Fz.d rfl) | (refine FzA.one ?_ ?_) | (refine Fz.fc (by kernel_rfl) (fnPk n.queue)))); done); kernel_rfl) | (with_reducible refine aw_skip ?_) | ((with_reducible refine aw_condM ?_ ?_); kernel_rfl) | (with_reducible refine aw_ret ?_) ); simp only [↓avP, avQ, avR, forall_const, implies_true, Nat.reduceEqDiff, Nat.reduceAdd, reduceCtorEq, avS, netD_B, ty_26, ty_27, ty_29, hd, hc]; try simp (disch := omega) only [av_w, av_t1, av_tp, Int.toNat_natCast]))
      refine aw_loopI (fun k : Nat => ⟨[(1, .ptr 0 0), (2, vI 0), (15, vPrs n.apart), (16, vI n.apart.length), (17, vI k)], [(0, .cells 29 (dV (netD n)))], 1⟩) (fun k => k ≤ n.apart.length ∧ ∀ i, i < k → apartAt n.apart i = true) (fun k => n.apart.length - k) 0 ⟨Nat.zero_le _, fun i hi => absurd hi (Nat.not_lt_zero i)⟩ (wk_of [(0, some 0)] rfl rfl ?_ ?_) ?_
      · simp only [wkA, reduceIte, Nat.reduceEqDiff]
        (repeat' (first | rfl | exact subVs_d _ _))
      · simp only [wkA, reduceIte, Nat.reduceEqDiff]
        (repeat' (first | rfl | exact subVs_d _ _))
      rintro k ⟨hk, h0⟩
      rcases Nat.lt_or_ge k n.apart.length with hlt | hge
      · have hd2 := ltd hlt
        have ht1 : ((k : Int) - 1).toNat = k - 1 := by omega
        have hbad : apartAt n.apart k = false → netChk n = 60 := fun h => by
          unfold netChk
          rw [if_neg hn, if_neg]
          unfold apartB
          rw [Bool.not_eq_true, List.all_eq_false]
          exact ⟨k, by simpa using hlt, by rw [h]; simp⟩
        cases hv : linkB (n.apart.getD k default) with
        | false =>
          repeat' (first | (with_reducible refine aw_seq ?_) | (with_reducible refine aw_stop (id := 6) ?_) | ((with_reducible refine two_intro ?_ ?_) <;> intro h <;> first | contradiction | (((guard_hyp h : true = true; clear h)))) | ((with_reducible refine And.intro ?_ ?_); (focus (first | omega | rfl))) | (with_reducible refine aw_block ?_) | ((first | ((with_reducible refine aw_regionA T_ok ?_ ?_); kernel_rfl) | (with_reducible refine aw_skip ?_) | ((with_reducible refine aw_condM ?_ ?_); kernel_rfl) ); simp only [↓avP, avQ, avR, forall_const, implies_true, Nat.reduceEqDiff, Nat.reduceAdd, Nat.reduceLeDiff, reduceCtorEq, prD_B, ty_93, ty_27, hd2]; try simp (disch := omega) only [av_w, av_t1, av_tp, Int.toNat_natCast]))
          refine ⟨?_⟩
          refine aw_frzC 1 (prD (n.apart.getD k default)) rfl rfl ?_
          simp only [frzP, frzPV, if_true, reduceIte, List.drop_zero, delB]
          repeat' (first | (with_reducible refine aw_seq ?_) | ((with_reducible refine two_intro ?_ ?_) <;> intro h <;> first | contradiction | (((guard_hyp h : true = true; clear h)))) | ((with_reducible refine And.intro ?_ ?_); (focus (first | omega | grind))) | ((first | ((with_reducible refine aw_regionA T_ok ?_ ?_); kernel_rfl) | ((with_reducible refine aw_drawnA T_ok ?_ ?_ ?_ ?_); kernel_rfl; kernel_rfl; (focus (decide +kernel))) | ((with_reducible refine callK_intro (nvalid_spec _) (by repeat' (first | exact ta_n | refine ta_a ?_)) ?_ ?_); kernel_rfl) | ((with_reducible refine callK_skip (.r1 (aI 0)) (by with_unfolding_all rfl) ?_ ?_); kernel_rfl) | ((with_reducible refine aw_condM ?_ ?_); kernel_rfl) | (with_reducible refine aw_ret ?_) ); simp only [↓avP, avQ, avR, forall_const, implies_true, Nat.reduceEqDiff, Nat.reduceAdd, Nat.reduceLeDiff, reduceCtorEq, netD_B, prD_B, prD_m, ty_3, ty_93, ty_27, ty_29, hv]; try simp (disch := omega) only [av_w, av_t1]))
          exact Sub.of_eq (congrArg aI (hbad (by unfold apartAt; rw [hv]; rfl)).symm)
        | true =>
        have hnext : (decide (k = 0) || decide (cmpPr (n.apart.getD (k - 1) default) (n.apart.getD k default) < 0)) = true → ∀ i, i < k + 1 → apartAt n.apart i = true := fun h i hi => by
          rcases Nat.lt_succ_iff_lt_or_eq.1 hi with h' | rfl
          · exact h0 i h'
          · unfold apartAt; rw [hv, h]; rfl
        by_cases hk0 : k = 0
        · have hz : decide ((k : Int) > 0) = false := decide_eq_false (by omega)
          repeat' (first | (with_reducible refine aw_seq ?_) | (with_reducible refine aw_stop (id := 6) ?_) | ((with_reducible refine two_intro ?_ ?_) <;> intro h <;> first | contradiction | (((guard_hyp h : true = true; clear h)))) | ((with_reducible refine And.intro ?_ ?_); (focus (first | omega | rfl))) | (with_reducible refine aw_block ?_) | ((first | ((with_reducible refine aw_regionA T_ok ?_ ?_); kernel_rfl) | (with_reducible refine aw_skip ?_) | ((with_reducible refine aw_condM ?_ ?_); kernel_rfl) ); simp only [↓avP, avQ, avR, forall_const, implies_true, Nat.reduceEqDiff, Nat.reduceAdd, Nat.reduceLeDiff, reduceCtorEq, prD_B, ty_93, ty_27, hd2]; try simp (disch := omega) only [av_w, av_t1, av_tp, Int.toNat_natCast]))
          refine ⟨?_⟩
          refine aw_frzC 1 (prD (n.apart.getD k default)) rfl rfl ?_
          simp only [frzP, frzPV, if_true, reduceIte, List.drop_zero, delB]
          repeat' (first | ((with_reducible refine two_intro ?_ ?_) <;> intro h <;> first | contradiction | (((guard_hyp h : false = false; clear h)))) | ((with_reducible refine And.intro ?_ ?_); (focus (first | omega | grind))) | ((first | ((with_reducible refine aw_regionA T_ok ?_ ?_); kernel_rfl) | ((with_reducible refine aw_drawnA T_ok ?_ ?_ ?_ ?_); kernel_rfl; kernel_rfl; (focus (decide +kernel))) | ((with_reducible refine callK_intro (nvalid_spec _) (by repeat' (first | exact ta_n | refine ta_a ?_)) ?_ ?_); kernel_rfl) | ((with_reducible refine callK_skip (.r1 (aI 0)) (by with_unfolding_all rfl) ?_ ?_); kernel_rfl) | (with_reducible refine aw_skip ?_) | ((with_reducible refine aw_condM ?_ ?_); kernel_rfl) ); simp only [↓avP, avQ, avR, forall_const, implies_true, Nat.reduceEqDiff, Nat.reduceAdd, Nat.reduceLeDiff, reduceCtorEq, netD_B, prD_B, prD_m, ty_3, ty_93, ty_27, ty_29, hv, hz]; try simp (disch := omega) only [av_w, av_t1]))
          refine ⟨k + 1, ⟨by omega, hnext (by rw [decide_eq_true hk0]; rfl)⟩, by dsimp only; omega, wk_of [(0, some 0)] rfl rfl ?_ ?_⟩
          · simp only [wkA, reduceIte, Nat.reduceEqDiff]
            (repeat' (first | rfl | exact subVs_d _ _))
          · simp only [wkA, reduceIte, Nat.reduceEqDiff]
            (repeat' (first | rfl | exact subVs_d _ _))
        · have hz : decide ((k : Int) > 0) = true := decide_eq_true (by omega)
          cases hc2 : decide (cmpPr (n.apart.getD (k - 1) default) (n.apart.getD k default) ≥ 0) with
          | true =>
            repeat' (first | (with_reducible refine aw_seq ?_) | (with_reducible refine aw_stop (id := 6) ?_) | ((with_reducible refine two_intro ?_ ?_) <;> intro h <;> first | contradiction | (((guard_hyp h : true = true; clear h)))) | ((with_reducible refine And.intro ?_ ?_); (focus (first | omega | rfl))) | (with_reducible refine aw_block ?_) | ((first | ((with_reducible refine aw_regionA T_ok ?_ ?_); kernel_rfl) | (with_reducible refine aw_skip ?_) | ((with_reducible refine aw_condM ?_ ?_); kernel_rfl) ); simp only [↓avP, avQ, avR, forall_const, implies_true, Nat.reduceEqDiff, Nat.reduceAdd, Nat.reduceLeDiff, reduceCtorEq, prD_B, ty_93, ty_27, hd2]; try simp (disch := omega) only [av_w, av_t1, av_tp, Int.toNat_natCast]))
            refine ⟨?_⟩
            refine aw_frzC 1 (prD (n.apart.getD k default)) rfl rfl ?_
            simp only [frzP, frzPV, if_true, reduceIte, List.drop_zero, delB]
            repeat' (first | (with_reducible refine aw_seq ?_) | ((with_reducible refine two_intro ?_ ?_) <;> intro h <;> first | contradiction | ((first | (guard_hyp h : true = true; clear h) | (guard_hyp h : false = false; clear h)))) | ((with_reducible refine And.intro ?_ ?_); (focus (omega))) | ((first | ((with_reducible refine aw_regionA T_ok ?_ ?_); kernel_rfl) | ((with_reducible refine aw_drawnA T_ok ?_ ?_ ?_ ?_); kernel_rfl; kernel_rfl; (focus (decide +kernel))) | ((with_reducible refine callK_intro (nvalid_spec _) (by repeat' (first | exact ta_n | refine ta_a ?_)) ?_ ?_); kernel_rfl) | ((with_reducible refine callK_intro (compare_spec _ _ _ _) (by repeat' (first | exact ta_n | refine ta_d ?_)) ?_ ?_); kernel_rfl) | (with_reducible refine aw_skip ?_) | ((with_reducible refine aw_condM ?_ ?_); kernel_rfl) | (with_reducible refine aw_ret ?_) ); simp only [↓avP, avQ, avR, forall_const, implies_true, Nat.reduceEqDiff, Nat.reduceAdd, Nat.reduceLeDiff, reduceCtorEq, netD_B, prD_B, prD_m, ty_3, ty_93, ty_27, ty_29, hv, hz, hc2]; try simp (disch := omega) only [av_w, av_t1]))
            exact Sub.of_eq (congrArg aI (hbad (by unfold apartAt; rw [hv, decide_eq_false hk0, decide_eq_false (by have := of_decide_eq_true hc2; omega)]; rfl)).symm)
          | false =>
            repeat' (first | (with_reducible refine aw_seq ?_) | (with_reducible refine aw_stop (id := 6) ?_) | ((with_reducible refine two_intro ?_ ?_) <;> intro h <;> first | contradiction | (((guard_hyp h : true = true; clear h)))) | ((with_reducible refine And.intro ?_ ?_); (focus (first | omega | rfl))) | (with_reducible refine aw_block ?_) | ((first | ((with_reducible refine aw_regionA T_ok ?_ ?_); kernel_rfl) | (with_reducible refine aw_skip ?_) | ((with_reducible refine aw_condM ?_ ?_); kernel_rfl) ); simp only [↓avP, avQ, avR, forall_const, implies_true, Nat.reduceEqDiff, Nat.reduceAdd, Nat.reduceLeDiff, reduceCtorEq, prD_B, ty_93, ty_27, hd2]; try simp (disch := omega) only [av_w, av_t1, av_tp, Int.toNat_natCast]))
            refine ⟨?_⟩
            refine aw_frzC 1 (prD (n.apart.getD k default)) rfl rfl ?_
            simp only [frzP, frzPV, if_true, reduceIte, List.drop_zero, delB]
            repeat' (first | (with_reducible refine aw_seq ?_) | ((with_reducible refine two_intro ?_ ?_) <;> intro h <;> first | contradiction | ((first | (guard_hyp h : true = true; clear h) | (guard_hyp h : false = false; clear h)))) | ((with_reducible refine And.intro ?_ ?_); (focus (omega))) | ((first | ((with_reducible refine aw_regionA T_ok ?_ ?_); kernel_rfl) | ((with_reducible refine aw_drawnA T_ok ?_ ?_ ?_ ?_); kernel_rfl; kernel_rfl; (focus (decide +kernel))) | ((with_reducible refine callK_intro (nvalid_spec _) (by repeat' (first | exact ta_n | refine ta_a ?_)) ?_ ?_); kernel_rfl) | ((with_reducible refine callK_intro (compare_spec _ _ _ _) (by repeat' (first | exact ta_n | refine ta_d ?_)) ?_ ?_); kernel_rfl) | (with_reducible refine aw_skip ?_) | ((with_reducible refine aw_condM ?_ ?_); kernel_rfl) | (with_reducible refine aw_ret ?_) ); simp only [↓avP, avQ, avR, forall_const, implies_true, Nat.reduceEqDiff, Nat.reduceAdd, Nat.reduceLeDiff, reduceCtorEq, netD_B, prD_B, prD_m, ty_3, ty_93, ty_27, ty_29, hv, hz, hc2]; try simp (disch := omega) only [av_w, av_t1]))
            refine ⟨k + 1, ⟨by omega, hnext (by rw [decide_eq_true (show cmpPr (n.apart.getD (k - 1) default) (n.apart.getD k default) < 0 by have := of_decide_eq_false hc2; omega), Bool.or_true])⟩, by dsimp only; omega, wk_of [(0, some 0)] rfl rfl ?_ ?_⟩
            · simp only [wkA, reduceIte, Nat.reduceEqDiff]
              (repeat' (first | rfl | exact subVs_d _ _))
            · simp only [wkA, reduceIte, Nat.reduceEqDiff]
              (repeat' (first | rfl | exact subVs_d _ _))
      · obtain rfl : k = n.apart.length := by omega
        have hd2 := ged (Nat.le_refl n.apart.length)
        repeat' (first | (with_reducible refine aw_seq ?_) | ((with_reducible refine two_intro ?_ ?_) <;> intro h <;> first | contradiction | (((guard_hyp h : false = false; clear h)))) | ((first | ((with_reducible refine aw_regionA T_ok ?_ ?_); kernel_rfl) | (with_reducible refine aw_exit ?_) | ((with_reducible refine aw_condM ?_ ?_); kernel_rfl) | (with_reducible refine aw_ret ?_) ); simp only [↓avP, avQ, avR, forall_const, implies_true, Nat.reduceEqDiff, avS, hd2]; try simp (disch := omega) only [av_w, av_t1, av_tp, Int.toNat_natCast]))
        exact Sub.of_eq (congrArg aI (by
          unfold netChk
          rw [if_neg hn, if_pos]
          unfold apartB
          rw [List.all_eq_true]
          exact fun i hi => h0 i (by simpa using hi)))
theorem sub_net0 : Sub (.agg [.c (.slice none 0 0), .c (.slice none 0 0)]) (.agg (netD ⟨[], []⟩)) := Sub.aggL ⟨.of _ _ rfl, .of _ _ rfl, trivial⟩
theorem nnew_spec : Spec Try.prog 29 [] (.r1 (.agg (netD ⟨[], []⟩))) := by
  refine spec_of T_ok Try.func29 (by dsimp only [Try.f29]) rfl rfl (by simp) fun w F => ?_
  repeat' (first | (with_reducible refine aw_seq ?_) | ((with_reducible refine And.intro ?_ ?_); (focus (first | omega | rfl))) | ((first | ((with_reducible refine aw_regionA T_ok ?_ ?_); kernel_rfl) | (with_reducible refine aw_ret ?_) ); simp only [↓avP, avQ, avR, forall_const, implies_true, Nat.reduceEqDiff, Nat.reduceAdd, Int.reduceToNat, Nat.reduceLeDiff, reduceCtorEq, avS, prD_B, ty_3, ty_106, ty_29]; try simp (disch := omega) only [av_w, av_t1, av_tp, Int.toNat_natCast]))
  exact sub_net0
def okNet (n : NetP) : Prop := n.queue.length ≤ 1048576 ∧ n.apart.length ≤ 140737488351232
def sendErr (n : NetP) (p : Pk) : Int := if netChk n ≠ 0 ∨ packetB p = false then 60 else if n.queue.length = 4096 then 2 else 0
abbrev net0 : NetP := ⟨[], []⟩
def sendN (n : NetP) (p : Pk) : NetP := if sendErr n p = 0 then ⟨n.queue ++ [p], n.apart⟩ else net0
theorem nsend_spec (n : NetP) (p : Pk) (hn : okNet n) : Spec Try.prog 64 [.agg (netD n), aPk p] (.rt [.agg (netD (sendN n p)), aI (sendErr n p)]) := by
  obtain ⟨hq, ha⟩ := hn
  refine spec_of T_ok Try.func64 (by dsimp only [Try.f64]) rfl rfl (by simp) fun w F => ?_
  cases h1 : (netChk n != 0) with
  | true =>
    repeat' (first | (with_reducible refine aw_seq ?_) | ((with_reducible refine two_intro ?_ ?_) <;> intro h <;> first | contradiction | (((guard_hyp h : true = true; clear h)))) | ((with_reducible refine And.intro ?_ ?_); (focus (rfl))) | ((first | ((with_reducible refine aw_regionA T_ok ?_ ?_); kernel_rfl) | ((with_reducible refine callI_spec (ncheck_spec n (by omega) ha) ?_ ?_ ?_ ?_); (focus (with_unfolding_all rfl)); kernel_rfl; kernel_rfl) | ((with_reducible refine callK_intro (npacket_spec _) (by repeat' (first | exact ta_n | refine ta_a ?_)) ?_ ?_); kernel_rfl) | ((with_reducible refine aw_condM ?_ ?_); kernel_rfl) | (with_reducible refine aw_ret ?_) ); simp only [↓avP, avQ, avR, forall_const, implies_true, Nat.reduceEqDiff, Nat.reduceAdd, Nat.reduceLeDiff, reduceCtorEq, avS, netD_B, pkD_B, ty_63, ty_29, h1]; try simp (disch := omega) only [av_w, av_t1, av_tp, Int.toNat_natCast]))
    have he : sendErr n p = 60 := by unfold sendErr; rw [if_pos (.inl (by simpa using h1))]
    rw [sendN, he, if_neg (by decide)]
    exact ⟨sub_net0, Sub.refl _⟩
  | false =>
  cases h2 : packetB p with
  | false =>
    repeat' (first | (with_reducible refine aw_seq ?_) | ((with_reducible refine two_intro ?_ ?_) <;> intro h <;> first | contradiction | (((guard_hyp h : true = true; clear h)))) | ((with_reducible refine And.intro ?_ ?_); (focus (rfl))) | ((first | ((with_reducible refine aw_regionA T_ok ?_ ?_); kernel_rfl) | ((with_reducible refine callI_spec (ncheck_spec n (by omega) ha) ?_ ?_ ?_ ?_); (focus (with_unfolding_all rfl)); kernel_rfl; kernel_rfl) | ((with_reducible refine callK_intro (npacket_spec _) (by repeat' (first | exact ta_n | refine ta_a ?_)) ?_ ?_); kernel_rfl) | ((with_reducible refine aw_condM ?_ ?_); kernel_rfl) | (with_reducible refine aw_ret ?_) ); simp only [↓avP, avQ, avR, forall_const, implies_true, Nat.reduceEqDiff, Nat.reduceAdd, Nat.reduceLeDiff, reduceCtorEq, avS, netD_B, pkD_B, ty_63, ty_29, h1, h2]; try simp (disch := omega) only [av_w, av_t1, av_tp, Int.toNat_natCast]))
    have he : sendErr n p = 60 := by unfold sendErr; rw [if_pos (.inr h2)]
    rw [sendN, he, if_neg (by decide)]
    exact ⟨sub_net0, Sub.refl _⟩
  | true =>
  cases h3 : ((n.queue.length : Int) == 4096) with
  | true =>
    repeat' (first | (with_reducible refine aw_seq ?_) | ((with_reducible refine two_intro ?_ ?_) <;> intro h <;> first | contradiction | ((first | (guard_hyp h : true = true; clear h) | (guard_hyp h : false = false; clear h)))) | ((with_reducible refine And.intro ?_ ?_); (focus (rfl))) | ((first | ((with_reducible refine aw_regionA T_ok ?_ ?_); kernel_rfl) | ((with_reducible refine callI_spec (ncheck_spec n (by omega) ha) ?_ ?_ ?_ ?_); (focus (with_unfolding_all rfl)); kernel_rfl; kernel_rfl) | ((with_reducible refine callK_intro (npacket_spec _) (by repeat' (first | exact ta_n | refine ta_a ?_)) ?_ ?_); kernel_rfl) | (with_reducible refine aw_skip ?_) | ((with_reducible refine aw_condM ?_ ?_); kernel_rfl) | (with_reducible refine aw_ret ?_) ); simp only [↓avP, avQ, avR, forall_const, implies_true, Nat.reduceEqDiff, Nat.reduceAdd, Nat.reduceLeDiff, reduceCtorEq, avS, netD_B, pkD_B, ty_63, ty_26, ty_29, h1, h2, h3]; try simp (disch := omega) only [av_w, av_t1, av_tp, Int.toNat_natCast]))
    have he : sendErr n p = 2 := by
      unfold sendErr
      rw [if_neg (by rw [h2]; simpa using h1), if_pos (by have := beq_iff_eq.1 h3; omega)]
    rw [sendN, he, if_neg (by decide)]
    exact ⟨sub_net0, Sub.refl _⟩
  | false =>
    have htk : List.take n.queue.length (n.queue.map pkD) = n.queue.map pkD := List.take_of_length_le (by simp)
    repeat' (first | (with_reducible refine aw_seq ?_) | ((with_reducible refine two_intro ?_ ?_) <;> intro h <;> first | contradiction | (((guard_hyp h : false = false; clear h)))) | ((with_reducible refine And.intro ?_ ?_); (focus (first | omega | rfl | decide))) | ((first | ((with_reducible refine aw_regionA T_ok ?_ ?_); kernel_rfl) | ((with_reducible refine aw_drawnX [0,1,2,3,4,5,6,7,8,9,10,11,12] [13] T_ok ?_ ?_ ?_ ?_); kernel_rfl; kernel_rfl; (focus (decide +kernel))) | ((with_reducible refine callI_spec (ncheck_spec n (by omega) ha) ?_ ?_ ?_ ?_); (focus (with_unfolding_all rfl)); kernel_rfl; kernel_rfl) | ((with_reducible refine callK_intro (npacket_spec _) (by repeat' (first | exact ta_n | refine ta_a ?_)) ?_ ?_); kernel_rfl) | (with_reducible refine aw_skip ?_) | ((with_reducible refine aw_condM ?_ ?_); kernel_rfl) | (with_reducible refine aw_ret ?_) ); simp only [↓avP, avQ, avR, forall_const, implies_true, Nat.reduceEqDiff, Nat.reduceAdd, Nat.reduceLeDiff, Nat.reduceLT, reduceCtorEq, avS, netD_B, pkD_B, ty_63, ty_26, ty_29, h1, h2, h3, htk]; try simp (disch := omega) only [av_w, av_t1, av_tp, Int.toNat_natCast]))
    have he : sendErr n p = 0 := by
      unfold sendErr
      rw [if_neg (by rw [h2]; simpa using h1), if_neg (by have := beq_eq_false_iff_ne.1 h3; omega)]
    rw [sendN, he, if_pos rfl]
    exact ⟨Sub.of_eq (by simp [netD]), Sub.refl _⟩
end Go.Proofs.Ythidfoohhhkobaa

