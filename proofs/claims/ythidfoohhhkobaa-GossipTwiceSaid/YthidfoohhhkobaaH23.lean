import Derived.Test.YthidfoohhhkobaaH20
import Derived.Test.YthidfoohhhkobaaH22
namespace Go.Proofs.Ythidfoohhhkobaa
set_option linter.unusedSimpArgs false
set_option linter.unusedVariables false
open Go.RowKit
set_option maxRecDepth 100000
set_option maxHeartbeats 4000000
theorem gacted_spec (n : Int) (l : List ActP) (h1 : 1 ≤ n) (h4 : n ≤ 4) (hl : l.length ≤ 14) (ha : ∀ a ∈ l, aOk a) : Spec Try.prog 8 [aI n, .one (.sl 46 (actD default) (l.map actD))] (.rt [aRoom (actsF n l).1, .one (handsD (actsF n l).2), aB true]) := by
  have hall := acts_inv h1 h4 l hl (fun a h => (ha a h).1)
  have hnew := gnew_spec n
  have hne : newE n = 0 := by unfold newE; rw [if_neg (by omega)]
  rw [hne] at hnew
  have hz : AInv n.toNat 0 (newR n, []) := AInv.zero h1 h4
  have hpl : ((newR n).peers.length : Int) = n := by have := hz.inv.len; dsimp only at this; omega
  refine spec_of T_ok Try.func8 (by dsimp only [Try.f8]) rfl rfl (by simp) fun w F => ?_
  have hpb : ((((newR n).peers.length : Nat) : Int) != n) = false := by simpa using hpl
  repeat' (first | (with_reducible refine aw_seq ?_) | ((with_reducible refine two_intro ?_ ?_) <;> intro h <;> first | (exact Bool.noConfusion h) | (((revert h; intro _)))) | ((with_reducible refine And.intro ?_ ?_); (focus (rfl))) | (with_reducible refine aw_block ?_) | ((first | ((with_reducible refine aw_regionA T_ok ?_ ?_); kernel_rfl) | ((with_reducible refine callI_spec (hnew) ?_ ?_ ?_ ?_); (focus (with_unfolding_all rfl)); kernel_rfl; kernel_rfl) | (with_reducible refine aw_skip ?_) | ((with_reducible refine aw_condM ?_ ?_); kernel_rfl) ); simp only [↓avP, avQ, avR, forall_const, implies_true, Nat.reduceEqDiff, Nat.reduceAdd, Nat.reduceLeDiff, reduceCtorEq, avS, roomD_B, ty_31, ty_22, ty_25, hpb]; try simp (disch := omega) only [av_w, av_t1, av_tp, Int.toNat_natCast]))
  refine aw_loopI (fun k : Nat => ⟨[(0, vI n), (4, .ptr 0 0), (5, .d (handsD (actsF n (l.take k)).2)), (27, .d (.sl 46 (actD default) (l.map actD))), (28, vI l.length), (29, vI k)], [(0, .cells 31 (dV (roomD (actsF n (l.take k)).1)))], 1⟩) (fun k => k ≤ l.length) (fun k => l.length - k) 0 (Nat.zero_le _) (wk_of [(0, some 0)] rfl rfl ?_ ?_) ?_
  · simp only [wkA, reduceIte, Nat.reduceEqDiff]
    simp only [List.take_zero, actsF, List.foldl_nil]
    (repeat' (first | rfl | exact subVs_d _ _ | refine And.intro ?_ ?_))
  · simp only [wkA, reduceIte, Nat.reduceEqDiff]
    simp only [List.take_zero, actsF, List.foldl_nil]
    (repeat' (first | rfl | exact subVs_d _ _ | refine And.intro ?_ ?_))
  intro k hk
  rcases Nat.lt_or_ge k l.length with hlt | hge
  · have hd2 := ltd hlt
    have hA := hall k (by omega)
    have hA1 := hall (k + 1) (by omega)
    have hst := acts_step n l k hlt
    have hm : l.getD k default ∈ l := mem_getD hlt
    have hgl : l.getD k default = l[k] := by simp [List.getD_eq_getElem?_getD, List.getElem?_eq_getElem hlt]
    have hga := getD_acts l k
    obtain ⟨ao1, ao2⟩ := ha _ hm
    rw [← hgl] at hst
    generalize hS : actsF n (l.take k) = S at *
    generalize l.getD k default = a at *
    have hsm := hA.sm (by omega)
    have hdo := gdo_spec S.1 a (hA.inv.ok (by have := hsm.1; omega) (by have := hsm.2; omega)) (fun _ => hA.inv.few hsm.1 hsm.2) ao1 ao2
    by_cases h0 : doE S.1 a = 0
    · rw [h0] at hdo
      obtain ⟨a1, a2, a3, a4, a5, a6⟩ := hA.inv.act hsm ao1 h0
      have hst' : actsF n (l.take (k + 1)) = (doR S.1 a, if a.kind = 1 then learnL S.2 a.hand else S.2) := by rw [hst]; unfold stepA; rw [if_pos h0]
      rw [hst'] at hA1
      have hlen : (((doR S.1 a).peers.length : Int) != n) = false := by have := hA1.inv.len; dsimp only at this; simp; omega
      have hq : decide (((doR S.1 a).net.queue.length : Int) > 200) = false := decide_eq_false (by have := hA1.lenQ; dsimp only at this; omega)
      by_cases hk1 : a.kind = 1
      · have hkb : (a.kind == 1) = true := by simpa using hk1
        have hle := q54learn_spec S.2 a.hand hA.ordT hA.inv.fT (a1 hk1) (by have := hA.lenT; omega)
        rw [if_pos hk1] at hst'
        repeat' (first | (with_reducible refine aw_seq ?_) | ((with_reducible refine two_intro ?_ ?_) <;> intro h <;> first | (exact Bool.noConfusion h) | ((first | (guard_hyp h : true = true; clear h) | (guard_hyp h : false = false; clear h) | (revert h; intro _)))) | ((with_reducible refine And.intro ?_ ?_); (focus (first | omega | rfl))) | (with_reducible refine aw_block ?_) | ((first | ((with_reducible refine aw_regionA T_ok ?_ ?_); kernel_rfl) | ((with_reducible refine callI_spec (hdo) ?_ ?_ ?_ ?_); (focus (((repeat' (first | exact ta_n | refine ta_a ?_)); done))); kernel_rfl; kernel_rfl) | ((with_reducible refine callI_spec (hle) ?_ ?_ ?_ ?_); (focus (((repeat' (first | exact ta_n | refine ta_a ?_ | refine ta_d ?_)); done))); kernel_rfl; kernel_rfl) | (with_reducible refine aw_skip ?_) | ((with_reducible refine aw_condM ?_ ?_); kernel_rfl) ); simp only [↓avP, avQ, avR, forall_const, implies_true, Nat.reduceEqDiff, Nat.reduceAdd, Nat.reduceLeDiff, reduceCtorEq, rm_dr, roomD_B, actS, ↓zA_one, zA_map, ty_A, handS, ty_H, ty_3, ty_31, ty_22, ty_25, ty_29, ty_26, hd2, hga, hlen, hq, hkb]; try simp (disch := omega) only [av_w]))
        refine ⟨k + 1, by omega, by dsimp only; omega, wk_of [(0, some 0)] rfl rfl ?_ ?_⟩
        · simp only [wkA, reduceIte, Nat.reduceEqDiff, hst']
          (repeat' (first | rfl | exact subVs_d _ _ | refine And.intro ?_ ?_))
        · simp only [wkA, reduceIte, Nat.reduceEqDiff, hst']
          (repeat' (first | rfl | exact subVs_d _ _ | refine And.intro ?_ ?_))
      · have hkb : (a.kind == 1) = false := by simpa using hk1
        rw [if_neg hk1] at hst'
        repeat' (first | (with_reducible refine aw_seq ?_) | ((with_reducible refine two_intro ?_ ?_) <;> intro h <;> first | (exact Bool.noConfusion h) | ((first | (guard_hyp h : true = true; clear h) | (guard_hyp h : false = false; clear h) | (revert h; intro _)))) | ((with_reducible refine And.intro ?_ ?_); (focus (first | omega | rfl))) | (with_reducible refine aw_block ?_) | ((first | ((with_reducible refine aw_regionA T_ok ?_ ?_); kernel_rfl) | ((with_reducible refine callI_spec (hdo) ?_ ?_ ?_ ?_); (focus (((repeat' (first | exact ta_n | refine ta_a ?_)); done))); kernel_rfl; kernel_rfl) | (with_reducible refine aw_skip ?_) | ((with_reducible refine aw_condM ?_ ?_); kernel_rfl) ); simp only [↓avP, avQ, avR, forall_const, implies_true, Nat.reduceEqDiff, Nat.reduceAdd, Nat.reduceLeDiff, reduceCtorEq, rm_dr, roomD_B, actS, ↓zA_one, zA_map, ty_A, ty_3, ty_31, ty_22, ty_25, ty_29, ty_26, hd2, hga, hlen, hq, hkb]; try simp (disch := omega) only [av_w]))
        refine ⟨k + 1, by omega, by dsimp only; omega, wk_of [(0, some 0)] rfl rfl ?_ ?_⟩
        · simp only [wkA, reduceIte, Nat.reduceEqDiff, hst']
          (repeat' (first | rfl | exact subVs_d _ _ | refine And.intro ?_ ?_))
        · simp only [wkA, reduceIte, Nat.reduceEqDiff, hst']
          (repeat' (first | rfl | exact subVs_d _ _ | refine And.intro ?_ ?_))
    · have hR := doR_bad h0
      have hst' : actsF n (l.take (k + 1)) = S := by rw [hst]; unfold stepA; rw [if_neg h0]
      have hne : (doE S.1 a != 0) = true := by simpa using h0
      rw [hR] at hdo
      repeat' (first | (with_reducible refine aw_seq ?_) | ((with_reducible refine two_intro ?_ ?_) <;> intro h <;> first | (exact Bool.noConfusion h) | ((first | (guard_hyp h : true = true; clear h) | (revert h; intro _)))) | ((with_reducible refine And.intro ?_ ?_); (focus (first | omega | rfl))) | (with_reducible refine aw_block ?_) | ((first | ((with_reducible refine aw_regionA T_ok ?_ ?_); kernel_rfl) | ((with_reducible refine callI_spec (hdo) ?_ ?_ ?_ ?_); (focus (((repeat' (first | exact ta_n | refine ta_a ?_)); done))); kernel_rfl; kernel_rfl) | (with_reducible refine aw_skip ?_) | (with_reducible refine aw_exit ?_) | ((with_reducible refine aw_condM ?_ ?_); kernel_rfl) ); simp only [↓avP, avQ, avR, forall_const, implies_true, Nat.reduceEqDiff, Nat.reduceAdd, Nat.reduceLeDiff, reduceCtorEq, roomD_B, actS, ↓zA_one, zA_map, ty_A, ty_31, ty_22, ty_25, ty_29, ty_26, hd2, hga, hne]; try simp (disch := omega) only [av_w]))
      refine ⟨k + 1, by omega, by dsimp only; omega, wk_of [(0, some 0)] rfl rfl ?_ ?_⟩
      · simp only [wkA, reduceIte, Nat.reduceEqDiff, hst', hS]
        (repeat' (first | rfl | exact subVs_d _ _ | refine And.intro ?_ ?_))
      · simp only [wkA, reduceIte, Nat.reduceEqDiff, hst', hS]
        (repeat' (first | rfl | exact subVs_d _ _ | refine And.intro ?_ ?_))
  · obtain rfl : k = l.length := by omega
    have hd2 := ged (Nat.le_refl l.length)
    repeat' (first | (with_reducible refine aw_seq ?_) | ((with_reducible refine two_intro ?_ ?_) <;> intro h <;> first | (exact Bool.noConfusion h) | (((guard_hyp h : false = false; clear h)))) | ((first | ((with_reducible refine aw_regionA T_ok ?_ ?_); kernel_rfl) | (with_reducible refine aw_exit ?_) | ((with_reducible refine aw_condM ?_ ?_); kernel_rfl) | (with_reducible refine aw_ret ?_) ); simp only [↓avP, avQ, avR, forall_const, implies_true, Nat.reduceEqDiff, Nat.reduceLeDiff, reduceCtorEq, avS, rm_dr, roomD_B, ty_31, hd2]; try simp (disch := omega) only [av_w, av_t1, av_tp, Int.toNat_natCast]))
    rw [List.take_length]
    exact ⟨Sub.refl _, Sub.refl _, Sub.refl _⟩
end Go.Proofs.Ythidfoohhhkobaa

