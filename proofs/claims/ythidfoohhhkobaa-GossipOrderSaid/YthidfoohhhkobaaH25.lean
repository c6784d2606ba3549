import Derived.Test.YthidfoohhhkobaaH22
import Derived.Test.YthidfoohhhkobaaH23
import Derived.Test.YthidfoohhhkobaaH24
namespace Go.Proofs.Ythidfoohhhkobaa
set_option linter.unusedSimpArgs false
set_option linter.unusedVariables false
open Go.RowKit
set_option maxRecDepth 100000
set_option maxHeartbeats 4000000
theorem nil_drained {n : Nat} {T : List Hd} {r : RoomP} {k : Nat} (h : Spec Try.prog 9 [aRoom r, .one (bsD [])] (.rt [aRoom (drainN [] r k), aB true])) : Spec Try.prog 9 [aRoom r, .one (.c (.slice none 0 0))] (.rt [aRoom (drainN [] r k), aB true]) :=
  spec_sub h ⟨Sub.refl _, Sub.nil _ _, trivial⟩
theorem glawOrder_spec (u : Int) (l : List ActP) (o : List UInt8) (hu : 0 ≤ u ∧ u ≤ 255) (hl : l.length ≤ 140737488351232 ∧ ∀ a ∈ l, aOk a) (ho : o.length ≤ 140737488351232) :
    Spec Try.prog 3 [.one (.c (.int .u8 u)), .one (.sl 46 (actD default) (l.map actD)), .one (bsD o)] (.r1 (aB true)) := by
  have hsane := gsane_spec
  refine spec_of T_ok Try.func3 (by dsimp only [Try.f3]) rfl rfl (by simp) fun w F => ?_
  by_cases h14 : l.length > 14
  · have hd1 : decide ((l.length : Int) > 14) = true := decide_eq_true (by omega)
    repeat' (first | (with_reducible refine aw_seq ?_) | ((with_reducible refine two_intro ?_ ?_) <;> intro h <;> first | (exact Bool.noConfusion h) | ((first | (guard_hyp h : true = true; clear h) | (guard_hyp h : false = false; clear h)))) | ((first | ((with_reducible refine aw_regionA T_ok ?_ ?_); kernel_rfl) | ((with_reducible refine callI_spec (hsane) ?_ ?_ ?_ ?_); (focus (with_unfolding_all rfl)); kernel_rfl; kernel_rfl) | (with_reducible refine aw_skip ?_) | ((with_reducible refine aw_condM ?_ ?_); kernel_rfl) | (with_reducible refine aw_ret ?_) ); simp only [↓avP, avQ, avR, forall_const, implies_true, Nat.reduceEqDiff, Nat.reduceAdd, reduceCtorEq, avS, ty_22, ty_23, hd1]; try simp (disch := omega) only [av_w, av_t1, av_tp, Int.toNat_natCast]))
    all_goals exact Sub.refl _
  have hd1 : decide ((l.length : Int) > 14) = false := decide_eq_false (by omega)
  by_cases h100 : o.length > 100
  · have hd2 : decide ((o.length : Int) > 100) = true := decide_eq_true (by omega)
    repeat' (first | (with_reducible refine aw_seq ?_) | ((with_reducible refine two_intro ?_ ?_) <;> intro h <;> first | (exact Bool.noConfusion h) | ((first | (guard_hyp h : true = true; clear h) | (guard_hyp h : false = false; clear h)))) | ((first | ((with_reducible refine aw_regionA T_ok ?_ ?_); kernel_rfl) | ((with_reducible refine callI_spec (hsane) ?_ ?_ ?_ ?_); (focus (with_unfolding_all rfl)); kernel_rfl; kernel_rfl) | (with_reducible refine aw_skip ?_) | ((with_reducible refine aw_condM ?_ ?_); kernel_rfl) | (with_reducible refine aw_ret ?_) ); simp only [↓avP, avQ, avR, forall_const, implies_true, Nat.reduceEqDiff, Nat.reduceAdd, reduceCtorEq, avS, ty_22, ty_23, hd1, hd2]; try simp (disch := omega) only [av_w, av_t1, av_tp, Int.toNat_natCast]))
    all_goals exact Sub.refl _
  have hd2 : decide ((o.length : Int) > 100) = false := decide_eq_false (by omega)
  obtain ⟨m, m1, m2, m3, m4, m5⟩ := mod4 hu
  have hact := gacted_spec (1 + m) l (by omega) (by omega) (by omega) hl.2
  have hA := acts_inv (n := 1 + m) (by omega) (by omega) l (by omega) (fun a h => (hl.2 a h).1) l.length (Nat.le_refl _)
  rw [List.take_length] at hA
  generalize actsF (1 + m) l = S at *
  have hQ := hA.lenQ
  have hT := hA.lenT
  obtain ⟨k1, p1, p2, p3, p4, p5⟩ := drain_end [] hA.inv ⟨by omega, by omega⟩
  obtain ⟨k2, q1, q2, q3, q4, q5⟩ := drain_end o hA.inv ⟨by omega, by omega⟩
  have dr1 := nil_drained (n := 0) (T := []) (gdrained_spec S.1 [] k1 hA.inv ⟨by omega, by omega⟩ (by simp) p1 p2 p3 p5)
  have dr2 := gdrained_spec S.1 o k2 hA.inv ⟨by omega, by omega⟩ (by omega) q1 q2 q3 q5
  have he : drainN [] S.1 k1 = drainN o S.1 k2 := RInv.ext (p3 k1 (Nat.le_refl _)).1 (q3 k2 (Nat.le_refl _)).1 p1 q1 fun i x => (p4 i x).trans (q4 i x).symm
  rw [he] at dr1
  have hq2 := (q3 k2 (Nat.le_refl _)).2
  have hsm := q54same_spec _ ((q3 k2 (Nat.le_refl _)).1.ok (by omega) (by omega))
  generalize drainN o S.1 k2 = R at *
  repeat' (first | (with_reducible refine aw_seq ?_) | ((with_reducible refine two_intro ?_ ?_) <;> intro h <;> first | (exact Bool.noConfusion h) | (((guard_hyp h : false = false; clear h)))) | ((with_reducible refine And.intro ?_ ?_); (focus (rfl))) | ((first | ((with_reducible refine aw_regionA T_ok ?_ ?_); kernel_rfl) | ((with_reducible refine callI_spec (hsane) ?_ ?_ ?_ ?_); (focus (with_unfolding_all rfl)); kernel_rfl; kernel_rfl) | ((with_reducible refine callI_spec (hact) ?_ ?_ ?_ ?_); (focus (with_unfolding_all rfl)); kernel_rfl; kernel_rfl) | ((with_reducible refine callI_spec (dr1) ?_ ?_ ?_ ?_); (focus (with_unfolding_all rfl)); kernel_rfl; kernel_rfl) | ((with_reducible refine callI_spec (dr2) ?_ ?_ ?_ ?_); (focus (with_unfolding_all rfl)); kernel_rfl; kernel_rfl) | ((with_reducible refine callK_intro (hsm) ?_ ?_ ?_); (focus (with_unfolding_all rfl)); kernel_rfl) | (with_reducible refine aw_skip ?_) | ((with_reducible refine aw_condM ?_ ?_); kernel_rfl) | (with_reducible refine aw_ret ?_) ); simp only [↓avP, avQ, avR, forall_const, implies_true, Nat.reduceEqDiff, Nat.reduceAdd, Nat.reduceLeDiff, reduceCtorEq, Int.reduceEq, avS, roomD_B, ty_3, ty_5, ty_31, ty_22, ty_23, hd1, hd2, m1, m2, m5]; try simp (disch := omega) only [av_w, av_t1, av_tp, Int.toNat_natCast]))
  all_goals exact Sub.refl _
end Go.Proofs.Ythidfoohhhkobaa

