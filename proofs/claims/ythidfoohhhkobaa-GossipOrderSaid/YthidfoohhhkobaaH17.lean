import Derived.Test.YthidfoohhhkobaaH15
import Derived.Test.YthidfoohhhkobaaH16
namespace Go.Proofs.Ythidfoohhhkobaa
set_option linter.unusedSimpArgs false
set_option linter.unusedVariables false
open Go.RowKit
set_option maxRecDepth 100000
set_option maxHeartbeats 4000000
theorem tell_no1 (w : World) (F : Ft) (d : Deferred) (gh : Nat → Value) (r : RoomP) (a : ActP) (hin : inR r a.peer = false) :
    callP Try.prog (Bdo w F d gh) 22 [.ptr 2 0, .agg (dV (actD a))] (errP 1) (sAt 22 a r) (fun s' => Wk Try.prog (Bdo w F d gh) s' sBad) ⟨⟩ := by
  have hnd := gneedP 1
  unfold inR at hin
  by_cases h0 : a.peer ≥ 0
  · have hd0 : decide (a.peer ≥ 0) = true := decide_eq_true h0
    have hd1 : decide (a.peer < (r.peers.length : Int)) = false := by rw [hd0, Bool.true_and] at hin; exact hin
    repeat' (first | (with_reducible refine aw_seq ?_) | ((first | ((with_reducible refine aw_regionP (id := 1) (errP 1) T_ok ?_ ?_); kernel_rfl) | ((with_reducible refine aw_regionA T_ok ?_ ?_); kernel_rfl) | ((with_reducible apply callP_in Try.func22); (focus (dsimp only [Try.f22])); (focus rfl); kernel_rfl; (focus exact of_decide_eq_true (by kernel_rfl)); intro _)); simp only [↓avP, avQ, avR, forall_const, implies_true, Nat.reduceEqDiff, Nat.reduceAdd, reduceCtorEq, ↓rwpP.eq_def, inP, stC, rowP, cellsC, actD_V, ty_3, ty_72, ty_52]; try simp (disch := omega) only [av_w, av_t1, av_tp, Int.toNat_natCast]))
    repeat' (((first | ((with_reducible refine aw_regionP (id := 0) (errP 1) T_ok ?_ ?_); kernel_rfl) | ((with_reducible apply callP_in Try.func39); (focus (dsimp only [Try.f39])); (focus rfl); kernel_rfl; (focus exact of_decide_eq_true (by kernel_rfl)); intro _) | ((with_reducible refine callP_fz (hnd) ?_ ?_ ?_); (focus (repeat' (first | (exact FzA.nil) | (refine FzA.one ?_ ?_) | (exact Fz.d rfl))); done); kernel_rfl)); simp only [↓avP, avQ, avR, forall_const, implies_true, Nat.reduceEqDiff, Nat.reduceAdd, Nat.reduceSub, Nat.reduceLeDiff, reduceCtorEq, ↓rwpP.eq_def, inP, ty_31, ty_75, ty_25, hd0, hd1]; try simp (disch := omega) only [av_w, av_t1, av_tp, Int.toNat_natCast]))
    refine wk_of [(0, some 0), (1, some 1)] rfl rfl ?_ ?_
    · simp only [wkA, reduceIte, Nat.reduceEqDiff]
      (repeat' (first | exact subVs_fl _ _ | exact trivial | rfl | exact rfl | exact subVs_d _ _ | exact subVs_dm _ _ | exact subD_refl _ | refine And.intro ?_ ?_))
    · simp only [wkA, reduceIte, Nat.reduceEqDiff]
      (repeat' (first | exact subVs_fl _ _ | exact trivial | rfl | exact rfl | exact subVs_d _ _ | exact subVs_dm _ _ | exact subD_refl _ | refine And.intro ?_ ?_))
  · have hd0 : decide (a.peer ≥ 0) = false := decide_eq_false h0
    repeat' (first | (with_reducible refine aw_seq ?_) | ((first | ((with_reducible refine aw_regionP (id := 1) (errP 1) T_ok ?_ ?_); kernel_rfl) | ((with_reducible refine aw_regionA T_ok ?_ ?_); kernel_rfl) | ((with_reducible apply callP_in Try.func22); (focus (dsimp only [Try.f22])); (focus rfl); kernel_rfl; (focus exact of_decide_eq_true (by kernel_rfl)); intro _)); simp only [↓avP, avQ, avR, forall_const, implies_true, Nat.reduceEqDiff, Nat.reduceAdd, reduceCtorEq, ↓rwpP.eq_def, inP, stC, rowP, cellsC, actD_V, ty_3, ty_72, ty_52]; try simp (disch := omega) only [av_w, av_t1, av_tp, Int.toNat_natCast]))
    repeat' (((first | ((with_reducible refine aw_regionP (id := 0) (errP 1) T_ok ?_ ?_); kernel_rfl) | ((with_reducible apply callP_in Try.func39); (focus (dsimp only [Try.f39])); (focus rfl); kernel_rfl; (focus exact of_decide_eq_true (by kernel_rfl)); intro _) | ((with_reducible refine callP_fz (hnd) ?_ ?_ ?_); (focus (repeat' (first | (exact FzA.nil) | (refine FzA.one ?_ ?_) | (exact Fz.d rfl))); done); kernel_rfl)); simp only [↓avP, avQ, avR, forall_const, implies_true, Nat.reduceEqDiff, Nat.reduceAdd, Nat.reduceSub, Nat.reduceLeDiff, reduceCtorEq, ↓rwpP.eq_def, inP, ty_31, ty_75, ty_25, hd0]; try simp (disch := omega) only [av_w, av_t1, av_tp, Int.toNat_natCast]))
    refine wk_of [(0, some 0), (1, some 1)] rfl rfl ?_ ?_
    · simp only [wkA, reduceIte, Nat.reduceEqDiff]
      (repeat' (first | exact subVs_fl _ _ | exact trivial | rfl | exact rfl | exact subVs_d _ _ | exact subVs_dm _ _ | exact subD_refl _ | refine And.intro ?_ ?_))
    · simp only [wkA, reduceIte, Nat.reduceEqDiff]
      (repeat' (first | exact subVs_fl _ _ | exact trivial | rfl | exact rfl | exact subVs_d _ _ | exact subVs_dm _ _ | exact subD_refl _ | refine And.intro ?_ ?_))
theorem tell_no2 (w : World) (F : Ft) (d : Deferred) (gh : Nat → Value) (r : RoomP) (a : ActP) (hin : inR r a.peer = true) (hm : hOk a.hand) (hf : formB a.hand = false) :
    callP Try.prog (Bdo w F d gh) 22 [.ptr 2 0, .agg (dV (actD a))] (errP 480) (sAt 22 a r) (fun s' => Wk Try.prog (Bdo w F d gh) s' sBad) ⟨⟩ := by
  have hnd := gneedP 480
  have hno := gneed_spec 1
  have hfs := gformed_spec a.hand (hOk_many hm)
  rw [hf] at hfs
  unfold inR at hin
  rw [Bool.and_eq_true] at hin
  obtain ⟨hd0, hd1⟩ := hin
  repeat' (first | (with_reducible refine aw_seq ?_) | ((first | ((with_reducible refine aw_regionP (id := 2) (errP 480) T_ok ?_ ?_); kernel_rfl) | ((with_reducible refine aw_regionA T_ok ?_ ?_); kernel_rfl) | ((with_reducible apply callP_in Try.func22); (focus (dsimp only [Try.f22])); (focus rfl); kernel_rfl; (focus exact of_decide_eq_true (by kernel_rfl)); intro _) | ((with_reducible apply callI_in T_ok Try.func39); (focus (dsimp only [Try.f39])); (focus rfl); (focus rfl); kernel_rfl; (focus exact of_decide_eq_true (by kernel_rfl)); (focus (kernel_rfl)); kernel_rfl; intro _) | ((with_reducible refine callI_spec (hno) ?_ ?_ ?_ ?_); (focus (with_unfolding_all rfl)); kernel_rfl; kernel_rfl) | ((with_reducible refine callI_spec (hfs) ?_ ?_ ?_ ?_); (focus (((repeat' (first | exact ta_n | refine ta_a ?_)); done))); kernel_rfl; kernel_rfl) | ((with_reducible refine callP_fz (hnd) ?_ ?_ ?_); (focus (repeat' (first | (exact FzA.nil) | (refine FzA.one ?_ ?_) | (exact Fz.d rfl))); done); kernel_rfl)); simp only [↓avP, avQ, avR, forall_const, implies_true, Nat.reduceEqDiff, Nat.reduceAdd, Nat.reduceSub, Nat.reduceLeDiff, reduceCtorEq, avS, ↓rwpP.eq_def, inP, stC, rowP, cellsC, actD_V, handS, ty_H, ty_3, ty_31, ty_75, ty_72, ty_52, ty_25, hd0, hd1]; try simp (disch := omega) only [av_w, av_t1, av_tp, Int.toNat_natCast]))
  refine wk_of [(0, some 0), (1, some 1)] rfl rfl ?_ ?_
  · simp only [wkA, reduceIte, Nat.reduceEqDiff]
    (repeat' (first | exact subVs_fl _ _ | exact trivial | rfl | exact rfl | exact subVs_d _ _ | exact subVs_dm _ _ | exact subD_refl _ | refine And.intro ?_ ?_))
  · simp only [wkA, reduceIte, Nat.reduceEqDiff]
    (repeat' (first | exact subVs_fl _ _ | exact trivial | rfl | exact rfl | exact subVs_d _ _ | exact subVs_dm _ _ | exact subD_refl _ | refine And.intro ?_ ?_))
theorem sync_no1 (w : World) (F : Ft) (d : Deferred) (gh : Nat → Value) (r : RoomP) (a : ActP) (hin : inR r a.peer = false) :
    callP Try.prog (Bdo w F d gh) 23 [.ptr 2 0, .agg (dV (actD a))] (errP 1) (sAt 23 a r) (fun s' => Wk Try.prog (Bdo w F d gh) s' sBad) ⟨⟩ := by
  have hnd := gneedP 1
  unfold inR at hin
  by_cases h0 : a.peer ≥ 0
  · have hd0 : decide (a.peer ≥ 0) = true := decide_eq_true h0
    have hd1 : decide (a.peer < (r.peers.length : Int)) = false := by rw [hd0, Bool.true_and] at hin; exact hin
    repeat' (first | (with_reducible refine aw_seq ?_) | ((first | ((with_reducible refine aw_regionP (id := 1) (errP 1) T_ok ?_ ?_); kernel_rfl) | ((with_reducible refine aw_regionA T_ok ?_ ?_); kernel_rfl) | ((with_reducible apply callP_in Try.func23); (focus (dsimp only [Try.f23])); (focus rfl); kernel_rfl; (focus exact of_decide_eq_true (by kernel_rfl)); intro _)); simp only [↓avP, avQ, avR, forall_const, implies_true, Nat.reduceEqDiff, Nat.reduceAdd, reduceCtorEq, ↓rwpP.eq_def, inP, stC, rowP, cellsC, actD_V, ty_3, ty_72, ty_52]; try simp (disch := omega) only [av_w, av_t1, av_tp, Int.toNat_natCast]))
    repeat' (((first | ((with_reducible refine aw_regionP (id := 0) (errP 1) T_ok ?_ ?_); kernel_rfl) | ((with_reducible apply callP_in Try.func39); (focus (dsimp only [Try.f39])); (focus rfl); kernel_rfl; (focus exact of_decide_eq_true (by kernel_rfl)); intro _) | ((with_reducible refine callP_fz (hnd) ?_ ?_ ?_); (focus (repeat' (first | (exact FzA.nil) | (refine FzA.one ?_ ?_) | (exact Fz.d rfl))); done); kernel_rfl)); simp only [↓avP, avQ, avR, forall_const, implies_true, Nat.reduceEqDiff, Nat.reduceAdd, Nat.reduceSub, Nat.reduceLeDiff, reduceCtorEq, ↓rwpP.eq_def, inP, ty_31, ty_75, ty_25, hd0, hd1]; try simp (disch := omega) only [av_w, av_t1, av_tp, Int.toNat_natCast]))
    refine wk_of [(0, some 0), (1, some 1)] rfl rfl ?_ ?_
    · simp only [wkA, reduceIte, Nat.reduceEqDiff]
      (repeat' (first | exact subVs_fl _ _ | exact trivial | rfl | exact rfl | exact subVs_d _ _ | exact subVs_dm _ _ | exact subD_refl _ | refine And.intro ?_ ?_))
    · simp only [wkA, reduceIte, Nat.reduceEqDiff]
      (repeat' (first | exact subVs_fl _ _ | exact trivial | rfl | exact rfl | exact subVs_d _ _ | exact subVs_dm _ _ | exact subD_refl _ | refine And.intro ?_ ?_))
  · have hd0 : decide (a.peer ≥ 0) = false := decide_eq_false h0
    repeat' (first | (with_reducible refine aw_seq ?_) | ((first | ((with_reducible refine aw_regionP (id := 1) (errP 1) T_ok ?_ ?_); kernel_rfl) | ((with_reducible refine aw_regionA T_ok ?_ ?_); kernel_rfl) | ((with_reducible apply callP_in Try.func23); (focus (dsimp only [Try.f23])); (focus rfl); kernel_rfl; (focus exact of_decide_eq_true (by kernel_rfl)); intro _)); simp only [↓avP, avQ, avR, forall_const, implies_true, Nat.reduceEqDiff, Nat.reduceAdd, reduceCtorEq, ↓rwpP.eq_def, inP, stC, rowP, cellsC, actD_V, ty_3, ty_72, ty_52]; try simp (disch := omega) only [av_w, av_t1, av_tp, Int.toNat_natCast]))
    repeat' (((first | ((with_reducible refine aw_regionP (id := 0) (errP 1) T_ok ?_ ?_); kernel_rfl) | ((with_reducible apply callP_in Try.func39); (focus (dsimp only [Try.f39])); (focus rfl); kernel_rfl; (focus exact of_decide_eq_true (by kernel_rfl)); intro _) | ((with_reducible refine callP_fz (hnd) ?_ ?_ ?_); (focus (repeat' (first | (exact FzA.nil) | (refine FzA.one ?_ ?_) | (exact Fz.d rfl))); done); kernel_rfl)); simp only [↓avP, avQ, avR, forall_const, implies_true, Nat.reduceEqDiff, Nat.reduceAdd, Nat.reduceSub, Nat.reduceLeDiff, reduceCtorEq, ↓rwpP.eq_def, inP, ty_31, ty_75, ty_25, hd0]; try simp (disch := omega) only [av_w, av_t1, av_tp, Int.toNat_natCast]))
    refine wk_of [(0, some 0), (1, some 1)] rfl rfl ?_ ?_
    · simp only [wkA, reduceIte, Nat.reduceEqDiff]
      (repeat' (first | exact subVs_fl _ _ | exact trivial | rfl | exact rfl | exact subVs_d _ _ | exact subVs_dm _ _ | exact subD_refl _ | refine And.intro ?_ ?_))
    · simp only [wkA, reduceIte, Nat.reduceEqDiff]
      (repeat' (first | exact subVs_fl _ _ | exact trivial | rfl | exact rfl | exact subVs_d _ _ | exact subVs_dm _ _ | exact subD_refl _ | refine And.intro ?_ ?_))
theorem sync_no2 (w : World) (F : Ft) (d : Deferred) (gh : Nat → Value) (r : RoomP) (a : ActP) (hin0 : inR r a.peer = true) (hin : inR r a.to_ = false) :
    callP Try.prog (Bdo w F d gh) 23 [.ptr 2 0, .agg (dV (actD a))] (errP 1) (sAt 23 a r) (fun s' => Wk Try.prog (Bdo w F d gh) s' sBad) ⟨⟩ := by
  have hnd := gneedP 1
  have hno := gneed_spec 1
  unfold inR at hin hin0
  rw [Bool.and_eq_true] at hin0
  obtain ⟨he0, he1⟩ := hin0
  by_cases h0 : a.to_ ≥ 0
  · have hd0 : decide (a.to_ ≥ 0) = true := decide_eq_true h0
    have hd1 : decide (a.to_ < (r.peers.length : Int)) = false := by rw [hd0, Bool.true_and] at hin; exact hin
    repeat' (first | (with_reducible refine aw_seq ?_) | ((first | ((with_reducible refine aw_regionP (id := 2) (errP 1) T_ok ?_ ?_); kernel_rfl) | ((with_reducible refine aw_regionA T_ok ?_ ?_); kernel_rfl) | ((with_reducible apply callP_in Try.func23); (focus (dsimp only [Try.f23])); (focus rfl); kernel_rfl; (focus exact of_decide_eq_true (by kernel_rfl)); intro _) | ((with_reducible apply callI_in T_ok Try.func39); (focus (dsimp only [Try.f39])); (focus rfl); (focus rfl); kernel_rfl; (focus exact of_decide_eq_true (by kernel_rfl)); (focus (kernel_rfl)); kernel_rfl; intro _) | ((with_reducible refine callI_spec (hno) ?_ ?_ ?_ ?_); (focus (with_unfolding_all rfl)); kernel_rfl; kernel_rfl)); simp only [↓avP, avQ, avR, forall_const, implies_true, Nat.reduceEqDiff, Nat.reduceAdd, Nat.reduceSub, Nat.reduceLeDiff, reduceCtorEq, avS, ↓rwpP.eq_def, inP, stC, rowP, cellsC, actD_V, ty_3, ty_31, ty_75, ty_72, ty_52, ty_25, he0, he1]; try simp (disch := omega) only [av_w, av_t1, av_tp, Int.toNat_natCast]))
    repeat' (((first | ((with_reducible refine aw_regionP (id := 0) (errP 1) T_ok ?_ ?_); kernel_rfl) | ((with_reducible apply callP_in Try.func39); (focus (dsimp only [Try.f39])); (focus rfl); kernel_rfl; (focus exact of_decide_eq_true (by kernel_rfl)); intro _) | ((with_reducible refine callP_fz (hnd) ?_ ?_ ?_); (focus (repeat' (first | (exact FzA.nil) | (refine FzA.one ?_ ?_) | (exact Fz.d rfl))); done); kernel_rfl)); simp only [↓avP, avQ, avR, forall_const, implies_true, Nat.reduceEqDiff, Nat.reduceAdd, Nat.reduceSub, Nat.reduceLeDiff, reduceCtorEq, ↓rwpP.eq_def, inP, ty_31, ty_75, ty_25, hd0, hd1]; try simp (disch := omega) only [av_w, av_t1, av_tp, Int.toNat_natCast]))
    refine wk_of [(0, some 0), (1, some 1)] rfl rfl ?_ ?_
    · simp only [wkA, reduceIte, Nat.reduceEqDiff]
      (repeat' (first | exact subVs_fl _ _ | exact trivial | rfl | exact rfl | exact subVs_d _ _ | exact subVs_dm _ _ | exact subD_refl _ | refine And.intro ?_ ?_))
    · simp only [wkA, reduceIte, Nat.reduceEqDiff]
      (repeat' (first | exact subVs_fl _ _ | exact trivial | rfl | exact rfl | exact subVs_d _ _ | exact subVs_dm _ _ | exact subD_refl _ | refine And.intro ?_ ?_))
  · have hd0 : decide (a.to_ ≥ 0) = false := decide_eq_false h0
    repeat' (first | (with_reducible refine aw_seq ?_) | ((first | ((with_reducible refine aw_regionP (id := 2) (errP 1) T_ok ?_ ?_); kernel_rfl) | ((with_reducible refine aw_regionA T_ok ?_ ?_); kernel_rfl) | ((with_reducible apply callP_in Try.func23); (focus (dsimp only [Try.f23])); (focus rfl); kernel_rfl; (focus exact of_decide_eq_true (by kernel_rfl)); intro _) | ((with_reducible apply callI_in T_ok Try.func39); (focus (dsimp only [Try.f39])); (focus rfl); (focus rfl); kernel_rfl; (focus exact of_decide_eq_true (by kernel_rfl)); (focus (kernel_rfl)); kernel_rfl; intro _) | ((with_reducible refine callI_spec (hno) ?_ ?_ ?_ ?_); (focus (with_unfolding_all rfl)); kernel_rfl; kernel_rfl)); simp only [↓avP, avQ, avR, forall_const, implies_true, Nat.reduceEqDiff, Nat.reduceAdd, Nat.reduceSub, Nat.reduceLeDiff, reduceCtorEq, avS, ↓rwpP.eq_def, inP, stC, rowP, cellsC, actD_V, ty_3, ty_31, ty_75, ty_72, ty_52, ty_25, he0, he1]; try simp (disch := omega) only [av_w, av_t1, av_tp, Int.toNat_natCast]))
    repeat' (((first | ((with_reducible refine aw_regionP (id := 0) (errP 1) T_ok ?_ ?_); kernel_rfl) | ((with_reducible apply callP_in Try.func39); (focus (dsimp only [Try.f39])); (focus rfl); kernel_rfl; (focus exact of_decide_eq_true (by kernel_rfl)); intro _) | ((with_reducible refine callP_fz (hnd) ?_ ?_ ?_); (focus (repeat' (first | (exact FzA.nil) | (refine FzA.one ?_ ?_) | (exact Fz.d rfl))); done); kernel_rfl)); simp only [↓avP, avQ, avR, forall_const, implies_true, Nat.reduceEqDiff, Nat.reduceAdd, Nat.reduceSub, Nat.reduceLeDiff, reduceCtorEq, ↓rwpP.eq_def, inP, ty_31, ty_75, ty_25, hd0]; try simp (disch := omega) only [av_w, av_t1, av_tp, Int.toNat_natCast]))
    refine wk_of [(0, some 0), (1, some 1)] rfl rfl ?_ ?_
    · simp only [wkA, reduceIte, Nat.reduceEqDiff]
      (repeat' (first | exact subVs_fl _ _ | exact trivial | rfl | exact rfl | exact subVs_d _ _ | exact subVs_dm _ _ | exact subD_refl _ | refine And.intro ?_ ?_))
    · simp only [wkA, reduceIte, Nat.reduceEqDiff]
      (repeat' (first | exact subVs_fl _ _ | exact trivial | rfl | exact rfl | exact subVs_d _ _ | exact subVs_dm _ _ | exact subD_refl _ | refine And.intro ?_ ?_))
theorem sync_no3 (w : World) (F : Ft) (d : Deferred) (gh : Nat → Value) (r : RoomP) (a : ActP) (hin0 : inR r a.peer = true) (hin : inR r a.to_ = true) (heq : a.peer = a.to_) :
    callP Try.prog (Bdo w F d gh) 23 [.ptr 2 0, .agg (dV (actD a))] (errP 1) (sAt 23 a r) (fun s' => Wk Try.prog (Bdo w F d gh) s' sBad) ⟨⟩ := by
  have hnd := gneedP 1
  have hno := gneed_spec 1
  unfold inR at hin hin0
  rw [Bool.and_eq_true] at hin0 hin
  obtain ⟨he0, he1⟩ := hin0
  obtain ⟨hd0, hd1⟩ := hin
  have hne : (a.peer != a.to_) = false := by simpa using heq
  repeat' (first | (with_reducible refine aw_seq ?_) | ((first | ((with_reducible refine aw_regionP (id := 3) (errP 1) T_ok ?_ ?_); kernel_rfl) | ((with_reducible refine aw_regionA T_ok ?_ ?_); kernel_rfl) | ((with_reducible apply callP_in Try.func23); (focus (dsimp only [Try.f23])); (focus rfl); kernel_rfl; (focus exact of_decide_eq_true (by kernel_rfl)); intro _) | ((with_reducible apply callI_in T_ok Try.func39); (focus (dsimp only [Try.f39])); (focus rfl); (focus rfl); kernel_rfl; (focus exact of_decide_eq_true (by kernel_rfl)); (focus (kernel_rfl)); kernel_rfl; intro _) | ((with_reducible refine callI_spec (hno) ?_ ?_ ?_ ?_); (focus (with_unfolding_all rfl)); kernel_rfl; kernel_rfl) | ((with_reducible refine callP_fz (hnd) ?_ ?_ ?_); (focus (repeat' (first | (exact FzA.nil) | (refine FzA.one ?_ ?_) | (exact Fz.d rfl))); done); kernel_rfl)); simp only [↓avP, avQ, avR, forall_const, implies_true, Nat.reduceEqDiff, Nat.reduceAdd, Nat.reduceSub, Nat.reduceLeDiff, reduceCtorEq, avS, ↓rwpP.eq_def, inP, stC, rowP, cellsC, actD_V, ty_3, ty_31, ty_75, ty_72, ty_52, ty_25, he0, he1, hd0, hd1, hne]; try simp (disch := omega) only [av_w, av_t1, av_tp, Int.toNat_natCast]))
  refine wk_of [(0, some 0), (1, some 1)] rfl rfl ?_ ?_
  · simp only [wkA, reduceIte, Nat.reduceEqDiff]
    (repeat' (first | exact subVs_fl _ _ | exact trivial | rfl | exact rfl | exact subVs_d _ _ | exact subVs_dm _ _ | exact subD_refl _ | refine And.intro ?_ ?_))
  · simp only [wkA, reduceIte, Nat.reduceEqDiff]
    (repeat' (first | exact subVs_fl _ _ | exact trivial | rfl | exact rfl | exact subVs_d _ _ | exact subVs_dm _ _ | exact subD_refl _ | refine And.intro ?_ ?_))

abbrev s4 (a : ActP) (i : Nat) (L : List (List Hd)) (n : NetP) : St := ⟨[(25, .ptr 0 0), (26, .ptr 1 0), (30, .ptr 2 0), (61, .ptr 0 0), (62, .ptr 1 0), (2, .ptr 4 0), (3, .ptr 5 0)], (5, .cells 52 (vI a.kind :: vI i :: vI a.to_ :: vI a.at_ :: dV (handD a.hand))) :: (4, .cells 72 [.ptr 2 0]) :: stC L n, 6⟩
theorem tellPk_succ (k : Nat) (i : Int) (h : Hd) : tellPk (k + 1) i h = tellPk k i h ++ (if (k : Int) ≠ i then [⟨i, k, msg h⟩] else []) := by
  unfold tellPk
  rw [List.range_succ, List.filter_append, List.map_append]
  by_cases e : (k : Int) ≠ i
  · rw [if_pos e, List.filter_cons_of_pos (by simpa using e)]; rfl
  · rw [if_neg e, List.filter_cons_of_neg (by simpa using e)]; rfl
theorem tell_net {n0 : NetP} {i : Nat} {m : Nat} (h : Hd) (hn : netChk n0 = 0) (hq : n0.queue.length ≤ 3000) (hm : m ≤ 24) (hi : i < m) : ∀ k, k ≤ m → netChk ⟨n0.queue ++ tellPk k i h, n0.apart⟩ = 0 ∧ (tellPk k i h).length ≤ k
  | 0, _ => ⟨by simpa [tellPk] using hn, by simp [tellPk]⟩
  | k + 1, hk => by
    obtain ⟨h1, h2⟩ := tell_net h hn hq hm hi k (by omega)
    rw [tellPk_succ]
    by_cases e : (k : Int) ≠ i
    · rw [if_pos e, ← List.append_assoc]
      refine ⟨netChk_snoc h1 (packetB_of hm (by omega) (by omega) (by omega) (by omega) (by omega) (by have := msg_len h; omega)) (by simp only [List.length_append]; omega), by simp; omega⟩
    · rw [if_neg e, List.append_nil]; exact ⟨h1, by omega⟩
theorem tell_ok (w : World) (F : Ft) (d : Deferred) (gh : Nat → Value) (r : RoomP) (a : ActP) (hin : inR r a.peer = true) (hm : hOk a.hand) (hf : formB a.hand = true)
    (hp : ∀ l ∈ r.peers, l.length ≤ 1000 ∧ ordH l ∧ ∀ x ∈ l, hOk x) (hn : netChk r.net = 0) (hq : r.net.queue.length ≤ 3000) (hn24 : r.peers.length ≤ 24) (hok : okNet r.net) :
    callI Try.prog (Bdo w F d gh) 22 [.ptr 2 0, .agg (dV (actD a))] (some 37) (sAt 22 a r) (fun s' => Wk Try.prog (Bdo w F d gh) s' (sTo ⟨setPeer r.peers a.peer a.hand, ⟨r.net.queue ++ tellPk r.peers.length a.peer a.hand, r.net.apart⟩⟩)) ⟨⟩ := by
  have hno := gneed_spec 1
  have hno0 := gneed_spec 0
  have hno2 := gneed_spec 2
  have hno4 := gneed_spec 480
  have hfs := gformed_spec a.hand (hOk_many hm)
  rw [hf] at hfs
  unfold inR at hin
  rw [Bool.and_eq_true] at hin
  obtain ⟨hd0, hd1⟩ := hin
  have h0 := of_decide_eq_true hd0
  have h1 := of_decide_eq_true hd1
  obtain ⟨i, hi⟩ : ∃ i : Nat, a.peer = i := ⟨a.peer.toNat, by omega⟩
  have hil : i < r.peers.length := by omega
  have hmem : r.peers.getD i [] ∈ r.peers := mem_getD hil
  obtain ⟨p1, p2, p3⟩ := hp _ hmem
  have hbs := bsH_spec (r.peers.getD i []) a.hand (by omega) hm p3 p2
  have hg := getD_rowP r.peers i hil
  unfold fnC at hbs
  rw [hi] at hd0 hd1 ⊢
  have hLn : (setPeer r.peers (i : Int) a.hand).length = r.peers.length := by unfold setPeer; simp
  have hnet := tell_net (i := i) (m := r.peers.length) a.hand hn hq hn24 hil
  have hms := gmessage_spec a.hand hm
  have hml : (msg a.hand).length ≤ 140737488351232 := by have := msg_len a.hand; omega
  generalize hP : r.peers.getD i [] = P at *
  repeat' (first | (with_reducible refine aw_seq ?_) | ((first | ((with_reducible refine aw_regionA T_ok ?_ ?_); kernel_rfl) | ((with_reducible apply callI_in T_ok Try.func22); (focus (dsimp only [Try.f22])); (focus rfl); (focus rfl); kernel_rfl; (focus exact of_decide_eq_true (by kernel_rfl)); (focus (kernel_rfl)); kernel_rfl; intro _) | ((with_reducible apply callI_in T_ok Try.func39); (focus (dsimp only [Try.f39])); (focus rfl); (focus rfl); kernel_rfl; (focus exact of_decide_eq_true (by kernel_rfl)); (focus (kernel_rfl)); kernel_rfl; intro _) | ((with_reducible refine callI_spec (hno) ?_ ?_ ?_ ?_); (focus (with_unfolding_all rfl)); kernel_rfl; kernel_rfl) | ((with_reducible refine callI_spec (hno4) ?_ ?_ ?_ ?_); (focus (with_unfolding_all rfl)); kernel_rfl; kernel_rfl) | ((with_reducible refine callI_spec (hfs) ?_ ?_ ?_ ?_); (focus (((repeat' (first | exact ta_n | refine ta_a ?_)); done))); kernel_rfl; kernel_rfl)); simp only [↓avP, avQ, avR, forall_const, implies_true, Nat.reduceEqDiff, Nat.reduceAdd, Nat.reduceSub, Nat.reduceLeDiff, reduceCtorEq, avS, stC, rowP, cellsC, actD_V, handS, ty_H, ty_3, ty_31, ty_75, ty_72, ty_52, ty_25, hd0, hd1, hi]; try simp (disch := omega) only [av_w, av_t1, av_tp, Int.toNat_natCast]))
  refine callI_wk (s1 := s4 a i (setPeer r.peers (i : Int) a.hand) r.net) ?_ ?_
  · cases hfd : foundH P a.hand with
    | true =>
      rw [hfd] at hbs
      have hset : setPeer r.peers (i : Int) a.hand = r.peers := by
        unfold setPeer learnL
        rw [Int.toNat_natCast, hP, if_pos hfd, ← hP]
        simp [List.getD_eq_getElem?_getD, List.getElem?_eq_getElem hil]
      rw [hset]
      repeat' (first | (with_reducible refine aw_seq ?_) | ((with_reducible refine two_intro ?_ ?_) <;> intro h <;> first | contradiction | (((guard_hyp h : true = true; clear h)))) | ((with_reducible refine And.intro ?_ ?_); (focus (omega))) | ((first | ((with_reducible refine aw_regionA T_ok ?_ ?_); kernel_rfl) | ((with_reducible refine aw_drawnA T_ok ?_ ?_ ?_ ?_); kernel_rfl; kernel_rfl; (focus (decide +kernel))) | ((with_reducible apply callI_in T_ok Try.func42); (focus (dsimp only [Try.f42])); (focus rfl); (focus rfl); kernel_rfl; (focus exact of_decide_eq_true (by kernel_rfl)); (focus (kernel_rfl)); kernel_rfl; intro _) | ((with_reducible refine callK_intro (hbs) ?_ ?_ ?_); (focus (((repeat' (first | exact ta_n | refine ta_a ?_ | refine ta_d ?_)); done))); kernel_rfl) | ((with_reducible refine aw_condM ?_ ?_); kernel_rfl) | (with_reducible refine aw_ret ?_) ); simp only [↓avP, avQ, avR, forall_const, implies_true, Nat.reduceEqDiff, Nat.reduceAdd, Nat.reduceSub, Nat.reduceLeDiff, reduceCtorEq, avS, s4, peer_h, stC, rowP, cellsC, handS, ty_H, ty_31, ty_75, ty_25, ty_55, ty_32, hg]; try simp (disch := omega) only [av_w, av_t1, av_tp, Int.toNat_natCast]))
      refine wk_of [(0, some 0), (1, some 1), (2, some 2), (3, some 3), (4, some 4), (5, some 5)] rfl rfl ?_ ?_
      · simp only [wkA, reduceIte, Nat.reduceEqDiff]
        (repeat' (first | exact subVs_fl _ _ | exact trivial | rfl | exact subVs_d _ _ | refine And.intro ?_ ?_))
      · simp only [wkA, reduceIte, Nat.reduceEqDiff]
        (repeat' (first | exact subVs_fl _ _ | exact trivial | rfl | exact subVs_d _ _ | refine And.intro ?_ ?_))
    | false =>
      rw [hfd] at hbs
      have hset := set_rowP hP hfd
      have hclone := cloneH_spec (P.map handD) (handD default) (handD default) (by simp; omega)
      have hlim : decide ((P.length : Int) < 4096) = true := decide_eq_true (by omega)
      have hi1 : lbH P a.hand ≤ (P.map handD).length := by rw [List.length_map]; exact lbH_le P a.hand
      have hi2 : (P.map handD).length ≤ 1048576 := by rw [List.length_map]; omega
      have hi3 : ∀ y ∈ P.map handD, y.length = 42 := fun y hy => by obtain ⟨z, _, rfl⟩ := List.mem_map.1 hy; exact hd_ln z
      repeat' (first | (with_reducible refine aw_seq ?_) | ((with_reducible refine two_intro ?_ ?_) <;> intro h <;> first | contradiction | (((guard_hyp h : false = false; clear h)))) | ((with_reducible refine And.intro ?_ ?_); (focus (first | omega | decide))) | ((first | ((with_reducible refine aw_regionA T_ok ?_ ?_); kernel_rfl) | ((with_reducible refine aw_drawnM (id := 5) 0 33 6 [0,1,2,3,4,5,6,7,8] [9,10,11,12] T_ok ?_ ?_ ?_ ?_ ?_ ?_ ?_ ?_); (focus rfl); kernel_rfl; kernel_rfl; (focus (decide +kernel)); (focus (decide +kernel)); (focus rfl); (focus (decide +kernel))) | ((with_reducible refine aw_drawnA T_ok ?_ ?_ ?_ ?_); kernel_rfl; kernel_rfl; (focus (decide +kernel))) | ((with_reducible apply callI_in T_ok Try.func42); (focus (dsimp only [Try.f42])); (focus rfl); (focus rfl); kernel_rfl; (focus exact of_decide_eq_true (by kernel_rfl)); (focus (kernel_rfl)); kernel_rfl; intro _) | ((with_reducible refine callI_spec (hno2) ?_ ?_ ?_ ?_); (focus (with_unfolding_all rfl)); kernel_rfl; kernel_rfl) | ((with_reducible refine callK_intro (hbs) ?_ ?_ ?_); (focus (((repeat' (first | exact ta_n | refine ta_a ?_ | refine ta_d ?_)); done))); kernel_rfl) | ((with_reducible refine callK_own (hclone) (by with_unfolding_all rfl) ?_ ?_); kernel_rfl) | ((with_reducible refine callI_insH (d0 := dV (handD default)) (dd := handD default) (es := P.map handD) (x := handD a.hand) ?_ ?_ ?_ ?_ ?_ ?_ ?_ ?_ ?_); kernel_rfl; (focus rfl); (focus rfl); (focus decide); (focus exact hi1); (focus exact hi2); (focus exact hi3); (focus exact hd_ln _)) | (with_reducible refine fin2_intro ?_) | (with_reducible refine aw_skip ?_) | ((with_reducible refine aw_condM ?_ ?_); kernel_rfl) ); simp only [↓avP, avQ, avR, forall_const, implies_true, Nat.reduceEqDiff, Nat.reduceAdd, Nat.reduceSub, Nat.reduceLeDiff, Nat.reduceLT, reduceCtorEq, avS, s4, peer_h, stC, rowP, cellsC, handS, ↓zH_D, ty_H, ty_31, ty_75, ty_25, ty_55, ty_32, hg, hlim]; try simp (disch := omega) only [av_w, av_t1, av_tp, Int.toNat_natCast]))
      rw [hset]
      refine wk_of [(0, some 0), (1, some 1), (2, some 2), (3, some 3), (4, some 4), (5, some 5)] rfl rfl ?_ ?_
      · simp only [wkA, reduceIte, Nat.reduceEqDiff]
        (repeat' (first | exact subVs_fl _ _ | exact trivial | rfl | exact subVs_d _ _ | refine And.intro ?_ ?_))
      · simp only [wkA, reduceIte, Nat.reduceEqDiff]
        (repeat' (first | exact subVs_fl _ _ | exact trivial | rfl | exact subVs_d _ _ | refine And.intro ?_ ?_))
  simp only [↓avP, avQ, avR, forall_const, implies_true, reduceIte, Nat.reduceEqDiff, Nat.reduceAdd, Nat.reduceSub, Int.reduceToNat, Nat.reduceLeDiff, Nat.reduceLT, reduceCtorEq, Int.reduceEq, avS, ty_9, ty_5, str_sz, bytesD_str, s4, peer_h, peer_tk, ↓rwpP.eq_def, inP, stC, rowP, cellsC, netD_B, pkD_B, actD_V, handS, hd_dr, ↓zH_one, ↓zH_cells, zH_map, ↓zH_D, List.append_nil, ty_H, ty_3, ty_4, ty_31, ty_75, ty_72, ty_52, ty_25, ty_55, ty_32, ty_29, ty_26, ty_63, ty_48, ty_23]
  generalize hLL : setPeer r.peers (i : Int) a.hand = LL at *
  clear hbs
  repeat' (first | (with_reducible refine aw_seq ?_) | (with_reducible refine aw_block ?_) | ((first | ((with_reducible refine aw_regionA T_ok ?_ ?_); kernel_rfl) | ((with_reducible apply callI_in T_ok Try.func43); (focus (dsimp only [Try.f43])); (focus rfl); (focus rfl); kernel_rfl; (focus exact of_decide_eq_true (by kernel_rfl)); (focus (kernel_rfl)); kernel_rfl; intro _) | ((with_reducible apply rfI_in Try.func44); (focus (dsimp only [Try.f44])); (focus (dsimp only [Base.inn, Base.inr])); (focus rfl); (focus rfl); kernel_rfl; (focus exact of_decide_eq_true (by kernel_rfl)); kernel_rfl; intro aL L hLp hLa hLb hLt) | ((with_reducible refine aw_rfM ?_ ?_); kernel_rfl)); simp only [↓avP, avQ, avR, forall_const, implies_true, Nat.reduceEqDiff, Nat.reduceAdd, reduceCtorEq, ty_31, ty_75, ty_72, ty_25]; try simp (disch := omega) only [av_w, av_t1, av_tp, Int.toNat_natCast]))
  refine aw_loopI (fun k : Nat => ⟨[(0, .yl 7), (1, .ptr 4 0), (2, .ptr 5 0), (34, .ptr 6 0), (85, .ptr 0 0), (86, .ptr 1 0), (90, .ptr 2 0), (121, .ptr 0 0), (122, .ptr 1 0), (62, .ptr 4 0), (63, .ptr 5 0), (10, vI LL.length), (11, vI k)], (7, .loop L .ready none) :: (6, .cells 72 [.ptr 2 0]) :: (5, .cells 52 (vI a.kind :: vI i :: vI a.to_ :: vI a.at_ :: dV (handD a.hand))) :: (4, .cells 72 [.ptr 2 0]) :: stC LL ⟨r.net.queue ++ tellPk k i a.hand, r.net.apart⟩, 8⟩) (fun k => k ≤ LL.length) (fun k => LL.length - k) 0 (Nat.zero_le _) (wk_of [(0, some 0), (1, some 1), (2, some 2), (3, some 3), (4, some 4), (5, some 5), (6, some 6), (7, some 7)] rfl rfl ?_ ?_) ?_
  · simp only [wkA, reduceIte, Nat.reduceEqDiff]
    (repeat' (first | exact subVs_fl _ _ | exact trivial | rfl | exact subVs_d _ _ | refine And.intro ?_ ?_))
  · simp only [wkA, reduceIte, Nat.reduceEqDiff]
    simp only [tellPk, List.range_zero, List.filter_nil, List.map_nil, List.append_nil]
    (repeat' (first | exact subVs_fl _ _ | exact trivial | rfl | exact subVs_d _ _ | refine And.intro ?_ ?_))
  intro k hk
  rcases Nat.lt_or_ge k LL.length with hlt | hge
  · have hd2 := ltd hlt
    by_cases hki : k = i
    · have hki' : ((k : Int) != (i : Int)) = false := by simpa using congrArg (fun n : Nat => (n : Int)) hki
      have hts : tellPk (k + 1) (i : Int) a.hand = tellPk k (i : Int) a.hand := by rw [tellPk_succ, if_neg (by omega), List.append_nil]
      repeat' (first | (with_reducible refine aw_seq ?_) | ((with_reducible refine twoG_intro ?_ ?_) <;> intro h <;> first | contradiction | ((try simp only [h, avT]); ((guard_hyp h : false = false; clear h)))) | ((with_reducible refine two_intro ?_ ?_) <;> intro h <;> first | contradiction | ((first | (guard_hyp h : true = true; clear h) | (guard_hyp h : false = false; clear h)))) | ((with_reducible refine And.intro ?_ ?_); (focus (first | omega | rfl))) | (with_reducible refine aw_block ?_) | ((first | ((with_reducible refine aw_regionA T_ok ?_ ?_); kernel_rfl) | ((with_reducible refine aw_drawnX [0,1,2,3,4,5,6,7,8,9,10,11,12,13] [14,15,16] T_ok ?_ ?_ ?_ ?_); kernel_rfl; kernel_rfl; (focus (decide +kernel))) | ((with_reducible refine callK_intro (hms) ?_ ?_ ?_); (focus (((repeat' (first | exact ta_n | refine ta_a ?_)); done))); kernel_rfl) | (with_reducible refine aw_skip ?_) | ((with_reducible refine aw_condM ?_ ?_); kernel_rfl) ); simp only [↓avP, avQ, avR, forall_const, implies_true, Nat.reduceEqDiff, Nat.reduceAdd, Nat.reduceLeDiff, reduceCtorEq, ty_9, ty_5, str_sz, bytesD_str, stC, rowP, cellsC, handS, ty_H, ty_3, ty_4, ty_52, ty_63, ty_23, hd2, hki']; try simp (disch := omega) only [av_w]))
      refine ⟨k + 1, by omega, by dsimp only; omega, wk_of [(0, some 0), (1, some 1), (2, some 2), (3, some 3), (4, some 4), (5, some 5), (6, some 6), (7, some 7)] rfl rfl ?_ ?_⟩
      · simp only [wkA, reduceIte, Nat.reduceEqDiff]
        (repeat' (first | exact subVs_fl _ _ | exact trivial | rfl | exact subVs_d _ _ | refine And.intro ?_ ?_))
      · simp only [wkA, reduceIte, Nat.reduceEqDiff, hts]
        (repeat' (first | exact subVs_fl _ _ | exact trivial | rfl | exact subVs_d _ _ | refine And.intro ?_ ?_))
    · have hki' : ((k : Int) != (i : Int)) = true := by simpa using fun e : (k : Int) = i => hki (by omega)
      have hts : tellPk (k + 1) (i : Int) a.hand = tellPk k (i : Int) a.hand ++ [⟨i, k, msg a.hand⟩] := by rw [tellPk_succ, if_pos (by omega)]
      obtain ⟨hnk, hqk⟩ := hnet k (by omega)
      have hsnd := nsend_spec ⟨r.net.queue ++ tellPk k i a.hand, r.net.apart⟩ ⟨i, k, msg a.hand⟩ ⟨by simp only [List.length_append]; omega, hok.2⟩
      obtain ⟨hs1, hs2⟩ := send_ok (p := ⟨i, k, msg a.hand⟩) hnk (packetB_of hn24 (by omega) (by omega) (by omega) (by omega) (by omega) (by have := msg_len a.hand; omega)) (by simp only [List.length_append]; omega)
      rw [hs1, hs2] at hsnd
      repeat' (first | (with_reducible refine aw_seq ?_) | ((with_reducible refine twoG_intro ?_ ?_) <;> intro h <;> first | contradiction | ((try simp only [h, avT]); ((guard_hyp h : true = true; clear h)))) | ((with_reducible refine two_intro ?_ ?_) <;> intro h <;> first | contradiction | ((first | (guard_hyp h : true = true; clear h) | (guard_hyp h : false = false; clear h)))) | ((with_reducible refine And.intro ?_ ?_); (focus (first | omega | rfl))) | (with_reducible refine aw_block ?_) | ((first | ((with_reducible refine aw_regionA T_ok ?_ ?_); kernel_rfl) | ((with_reducible refine aw_drawnX [0,1,2,3,4,5,6,7,8,9,10,11,12,13] [14,15,16] T_ok ?_ ?_ ?_ ?_); kernel_rfl; kernel_rfl; (focus (decide +kernel))) | ((with_reducible refine aw_drawnEA (id := 3) [(11, 10)] [] T_ok ?_ ?_ ?_ ?_ ?_); kernel_rfl; kernel_rfl; (focus (decide +kernel)); kernel_rfl) | ((with_reducible apply yieldI_in 0 0 (hL1 := hLp) (hL2 := hLa) (hL3 := hLb) (hsz := hLt.1)); (focus rfl); (focus rfl); (focus rfl); kernel_rfl; (focus (dsimp only [Base.inn, Base.inr])); (focus exact (fun t ht => (hLt.2 t ht).trans (by rw [Nat.zero_add]; rfl))); kernel_rfl; intro _) | ((with_reducible refine callK_intro (hms) ?_ ?_ ?_); (focus (((repeat' (first | exact ta_n | refine ta_a ?_)); done))); kernel_rfl) | ((with_reducible refine callK_intro (hsnd) ?_ ?_ ?_); (focus (with_unfolding_all rfl)); kernel_rfl) | ((with_reducible refine callI_spec (hno0) ?_ ?_ ?_ ?_); (focus (with_unfolding_all rfl)); kernel_rfl; kernel_rfl) | (with_reducible refine fin2_intro ?_) | (with_reducible refine aw_skip ?_) | ((with_reducible refine aw_condM ?_ ?_); kernel_rfl) ); simp only [↓avP, avQ, avR, forall_const, implies_true, Nat.reduceEqDiff, Nat.reduceAdd, Nat.reduceSub, Nat.reduceLeDiff, Nat.reduceLT, reduceCtorEq, ↓earlyL.eq_def, ty_9, ty_5, str_sz, bytesD_str, stC, rowP, cellsC, netD_B, handS, ty_H, ty_3, ty_4, ty_31, ty_75, ty_72, ty_52, ty_29, ty_63, ty_23, hd2, hki']; try simp (disch := omega) only [av_w]))
      refine ⟨k + 1, by omega, by dsimp only; omega, wk_of [(0, some 0), (1, some 1), (2, some 2), (3, some 3), (4, some 4), (5, some 5), (6, some 6), (7, some 7)] rfl rfl ?_ ?_⟩
      · simp only [wkA, reduceIte, Nat.reduceEqDiff]
        (repeat' (first | exact subVs_fl _ _ | exact trivial | rfl | exact subVs_d _ _ | refine And.intro ?_ ?_))
      · simp only [wkA, reduceIte, Nat.reduceEqDiff, hts, ← List.append_assoc]
        (repeat' (first | exact subVs_fl _ _ | exact trivial | rfl | exact subVs_d _ _ | refine And.intro ?_ ?_))
  · obtain rfl : k = LL.length := by omega
    have hd2 := ged (Nat.le_refl LL.length)
    repeat' (first | (with_reducible refine aw_seq ?_) | ((with_reducible refine two_intro ?_ ?_) <;> intro h <;> first | contradiction | (((guard_hyp h : false = false; clear h)))) | ((first | ((with_reducible refine aw_regionA T_ok ?_ ?_); kernel_rfl) | (with_reducible refine aw_exit ?_) | ((with_reducible refine aw_condM ?_ ?_); kernel_rfl) ); simp only [↓avP, avQ, avR, forall_const, implies_true, Nat.reduceEqDiff, Nat.reduceSub, Nat.reduceLeDiff, reduceCtorEq, avS, stC, rowP, cellsC, hd2]; try simp (disch := omega) only [av_w, av_t1, av_tp, Int.toNat_natCast]))
    rw [← hLn]
    refine wk_of [(0, some 0), (1, some 1), (2, some 2), (3, some 3)] rfl rfl ?_ ?_
    · simp only [wkA, reduceIte, Nat.reduceEqDiff]
      (repeat' (first | exact subVs_fl _ _ | exact trivial | rfl | exact subVs_d _ _ | refine And.intro ?_ ?_))
    · simp only [wkA, reduceIte, Nat.reduceEqDiff]
      (repeat' (first | exact subVs_fl _ _ | exact trivial | rfl | exact subVs_d _ _ | refine And.intro ?_ ?_))

theorem sync_net {n0 : NetP} {i j : Int} {m : Nat} (hn : netChk n0 = 0) (hm : m ≤ 24) (hi : 0 ≤ i) (hi2 : i < m) (hj : 0 ≤ j) (hj2 : j < m) (hij : i ≠ j) (P : List Hd) (hq : n0.queue.length + P.length ≤ 4096) : ∀ k, k ≤ P.length → netChk ⟨n0.queue ++ syncPk (P.take k) i j, n0.apart⟩ = 0
  | 0, _ => by simpa [syncPk] using hn
  | k + 1, hk => by
    have h1 := sync_net hn hm hi hi2 hj hj2 hij P hq k (by omega)
    rw [List.take_succ_eq_append_getElem (by omega)]
    unfold syncPk at h1 ⊢
    rw [List.map_append, ← List.append_assoc]
    exact netChk_snoc h1 (packetB_of hm hi hi2 hj hj2 hij (by have := msg_len P[k]; omega)) (by simp only [List.length_append, List.length_map, List.length_take]; omega)
theorem sync_ok (w : World) (F : Ft) (d : Deferred) (gh : Nat → Value) (r : RoomP) (a : ActP) (hin : inR r a.peer = true) (hin2 : inR r a.to_ = true) (hne : a.peer ≠ a.to_)
    (hp : ∀ l ∈ r.peers, l.length ≤ 1000 ∧ ∀ x ∈ l, hOk x) (hn : netChk r.net = 0) (hq : r.net.queue.length ≤ 3000) (hn24 : r.peers.length ≤ 24) (hok : okNet r.net) :
    callI Try.prog (Bdo w F d gh) 23 [.ptr 2 0, .agg (dV (actD a))] (some 37) (sAt 23 a r) (fun s' => Wk Try.prog (Bdo w F d gh) s' (sTo ⟨r.peers, ⟨r.net.queue ++ syncPk (r.peers.getD a.peer.toNat []) a.peer a.to_, r.net.apart⟩⟩)) ⟨⟩ := by
  have hno := gneed_spec 1
  have hno0 := gneed_spec 0
  unfold inR at hin hin2
  rw [Bool.and_eq_true] at hin hin2
  obtain ⟨hd0, hd1⟩ := hin
  obtain ⟨he0, he1⟩ := hin2
  have h0 := of_decide_eq_true hd0
  have h1 := of_decide_eq_true hd1
  have g0 := of_decide_eq_true he0
  have g1 := of_decide_eq_true he1
  have hneb : (a.peer != a.to_) = true := by simpa using hne
  obtain ⟨i, hi⟩ : ∃ i : Nat, a.peer = i := ⟨a.peer.toNat, by omega⟩
  have hil : i < r.peers.length := by omega
  have hmem : r.peers.getD i [] ∈ r.peers := mem_getD hil
  obtain ⟨p1, p3⟩ := hp _ hmem
  have hg := getD_rowP r.peers i hil
  rw [hi] at hd0 hd1 hneb hne h0 h1 ⊢
  rw [Int.toNat_natCast]
  generalize hP : r.peers.getD i [] = P at *
  have hnet := sync_net (m := r.peers.length) hn hn24 h0 h1 g0 g1 hne P (by omega)
  repeat' (first | (with_reducible refine aw_seq ?_) | ((with_reducible refine And.intro ?_ ?_); (focus (omega))) | (with_reducible refine aw_block ?_) | ((first | ((with_reducible refine aw_regionA T_ok ?_ ?_); kernel_rfl) | ((with_reducible refine aw_drawnA T_ok ?_ ?_ ?_ ?_); kernel_rfl; kernel_rfl; (focus (decide +kernel))) | ((with_reducible apply callI_in T_ok Try.func23); (focus (dsimp only [Try.f23])); (focus rfl); (focus rfl); kernel_rfl; (focus exact of_decide_eq_true (by kernel_rfl)); (focus (kernel_rfl)); kernel_rfl; intro _) | ((with_reducible apply callI_in T_ok Try.func39); (focus (dsimp only [Try.f39])); (focus rfl); (focus rfl); kernel_rfl; (focus exact of_decide_eq_true (by kernel_rfl)); (focus (kernel_rfl)); kernel_rfl; intro _) | ((with_reducible refine callI_spec (hno) ?_ ?_ ?_ ?_); (focus (with_unfolding_all rfl)); kernel_rfl; kernel_rfl) | ((with_reducible apply callI_in T_ok Try.func43); (focus (dsimp only [Try.f43])); (focus rfl); (focus rfl); kernel_rfl; (focus exact of_decide_eq_true (by kernel_rfl)); (focus (kernel_rfl)); kernel_rfl; intro _) | ((with_reducible apply rfI_in Try.func46); (focus (dsimp only [Try.f46])); (focus (dsimp only [Base.inn, Base.inr])); (focus rfl); (focus rfl); kernel_rfl; (focus exact of_decide_eq_true (by kernel_rfl)); kernel_rfl; intro aL L hLp hLa hLb hLt) | ((with_reducible refine aw_rfM ?_ ?_); kernel_rfl)); simp only [↓avP, avQ, avR, forall_const, implies_true, Nat.reduceEqDiff, Nat.reduceAdd, Nat.reduceSub, Nat.reduceLeDiff, reduceCtorEq, avS, peer_h, stC, rowP, cellsC, actD_V, ty_3, ty_31, ty_75, ty_72, ty_52, ty_25, ty_55, ty_32, hd0, hd1, he0, he1, hi, hneb, hg]; try simp (disch := omega) only [av_w, av_t1, av_tp, Int.toNat_natCast]))
  refine aw_loopI (fun k : Nat => ⟨[(0, .yl 7), (1, .ptr 4 0), (2, .ptr 5 0), (15, .d (handsD P)), (16, vI P.length), (17, vI k), (35, .ptr 6 0), (86, .ptr 0 0), (87, .ptr 1 0), (91, .ptr 2 0), (122, .ptr 0 0), (123, .ptr 1 0), (63, .ptr 4 0), (64, .ptr 5 0)], (7, .loop L .ready none) :: (6, .cells 72 [.ptr 2 0]) :: (5, .cells 52 (vI a.kind :: vI i :: vI a.to_ :: vI a.at_ :: dV (handD a.hand))) :: (4, .cells 72 [.ptr 2 0]) :: stC r.peers ⟨r.net.queue ++ syncPk (P.take k) i a.to_, r.net.apart⟩, 8⟩) (fun k => k ≤ P.length) (fun k => P.length - k) 0 (Nat.zero_le _) (wk_of [(0, some 0), (1, some 1), (2, some 2), (3, some 3), (4, some 4), (5, some 5), (6, some 6), (7, some 7)] rfl rfl ?_ ?_) ?_
  · simp only [wkA, reduceIte, Nat.reduceEqDiff]
    (repeat' (first | exact subVs_fl _ _ | exact trivial | rfl | exact subVs_d _ _ | refine And.intro ?_ ?_))
  · simp only [wkA, reduceIte, Nat.reduceEqDiff]
    simp only [syncPk, List.take_zero, List.map_nil, List.append_nil]
    (repeat' (first | exact subVs_fl _ _ | exact trivial | rfl | exact subVs_d _ _ | refine And.intro ?_ ?_))
  intro k hk
  rcases Nat.lt_or_ge k P.length with hlt | hge
  · have hd2 := ltd hlt
    have hkm : P.getD k default ∈ P := mem_getD hlt
    have hms := gmessage_spec (P.getD k default) (p3 _ hkm)
    have hml : (msg (P.getD k default)).length ≤ 140737488351232 := by have := msg_len (P.getD k default); omega
    have hts : syncPk (P.take (k + 1)) (i : Int) a.to_ = syncPk (P.take k) (i : Int) a.to_ ++ [⟨i, a.to_, msg (P.getD k default)⟩] := by
      rw [List.take_succ_eq_append_getElem hlt]
      unfold syncPk
      rw [List.map_append, getD_atH hlt]
      rfl
    have hnk := hnet k (by omega)
    have hlk : (syncPk (P.take k) (i : Int) a.to_).length ≤ k := by unfold syncPk; rw [List.length_map, List.length_take]; omega
    have hsnd := nsend_spec ⟨r.net.queue ++ syncPk (P.take k) i a.to_, r.net.apart⟩ ⟨i, a.to_, msg (P.getD k default)⟩ ⟨by simp only [List.length_append]; omega, hok.2⟩
    obtain ⟨hs1, hs2⟩ := send_ok (p := ⟨i, a.to_, msg (P.getD k default)⟩) hnk (packetB_of hn24 (by omega) (by omega) (by omega) (by omega) hne (by have := msg_len (P.getD k default); omega)) (by simp only [List.length_append]; omega)
    rw [hs1, hs2] at hsnd
    repeat' (first | (with_reducible refine aw_seq ?_) | ((with_reducible refine two_intro ?_ ?_) <;> intro h <;> first | contradiction | ((first | (guard_hyp h : true = true; clear h) | (guard_hyp h : false = false; clear h)))) | ((with_reducible refine And.intro ?_ ?_); (focus (first | omega | rfl))) | (with_reducible refine aw_block ?_) | ((first | ((with_reducible refine aw_regionA T_ok ?_ ?_); kernel_rfl) | ((with_reducible refine aw_drawnX [0,1,2,3,4,5,6,7,8] [9,10] T_ok ?_ ?_ ?_ ?_); kernel_rfl; kernel_rfl; (focus (decide +kernel))) | ((with_reducible refine aw_drawnEA (id := 3) [(11, 10)] [] T_ok ?_ ?_ ?_ ?_ ?_); kernel_rfl; kernel_rfl; (focus (decide +kernel)); kernel_rfl) | ((with_reducible apply yieldI_in 0 0 (hL1 := hLp) (hL2 := hLa) (hL3 := hLb) (hsz := hLt.1)); (focus rfl); (focus rfl); (focus rfl); kernel_rfl; (focus (dsimp only [Base.inn, Base.inr])); (focus exact (fun t ht => (hLt.2 t ht).trans (by rw [Nat.zero_add]; rfl))); kernel_rfl; intro _) | ((with_reducible refine callK_intro (hms) ?_ ?_ ?_); (focus (((repeat' (first | exact ta_n | refine ta_a ?_)); done))); kernel_rfl) | ((with_reducible refine callK_intro (hsnd) ?_ ?_ ?_); (focus (with_unfolding_all rfl)); kernel_rfl) | ((with_reducible refine callI_spec (hno0) ?_ ?_ ?_ ?_); (focus (with_unfolding_all rfl)); kernel_rfl; kernel_rfl) | (with_reducible refine fin2_intro ?_) | (with_reducible refine aw_skip ?_) | ((with_reducible refine aw_condM ?_ ?_); kernel_rfl) ); simp only [↓avP, avQ, avR, forall_const, implies_true, Nat.reduceEqDiff, Nat.reduceAdd, Nat.reduceSub, Nat.reduceLeDiff, Nat.reduceLT, reduceCtorEq, ↓earlyL.eq_def, ty_9, ty_5, str_sz, bytesD_str, stC, rowP, cellsC, netD_B, handS, hd_dr, ↓zH_one, zH_map, ty_H, ty_3, ty_31, ty_75, ty_72, ty_52, ty_32, ty_29, ty_63, ty_23, hd2]; try simp (disch := omega) only [av_w]))
    refine ⟨k + 1, by omega, by dsimp only; omega, wk_of [(0, some 0), (1, some 1), (2, some 2), (3, some 3), (4, some 4), (5, some 5), (6, some 6), (7, some 7)] rfl rfl ?_ ?_⟩
    · simp only [wkA, reduceIte, Nat.reduceEqDiff]
      (repeat' (first | exact subVs_fl _ _ | exact trivial | rfl | exact subVs_d _ _ | refine And.intro ?_ ?_))
    · simp only [wkA, reduceIte, Nat.reduceEqDiff, hts, ← List.append_assoc]
      (repeat' (first | exact subVs_fl _ _ | exact trivial | rfl | exact subVs_d _ _ | refine And.intro ?_ ?_))
  · obtain rfl : k = P.length := by omega
    have hd2 := ged (Nat.le_refl P.length)
    repeat' (first | (with_reducible refine aw_seq ?_) | ((with_reducible refine two_intro ?_ ?_) <;> intro h <;> first | contradiction | (((guard_hyp h : false = false; clear h)))) | ((first | ((with_reducible refine aw_regionA T_ok ?_ ?_); kernel_rfl) | (with_reducible refine aw_exit ?_) | ((with_reducible refine aw_condM ?_ ?_); kernel_rfl) ); simp only [↓avP, avQ, avR, forall_const, implies_true, Nat.reduceEqDiff, Nat.reduceSub, Nat.reduceLeDiff, reduceCtorEq, avS, stC, rowP, cellsC, hd2]; try simp (disch := omega) only [av_w, av_t1, av_tp, Int.toNat_natCast]))
    rw [List.take_length]
    refine wk_of [(0, some 0), (1, some 1), (2, some 2), (3, some 3)] rfl rfl ?_ ?_
    · simp only [wkA, reduceIte, Nat.reduceEqDiff]
      (repeat' (first | exact subVs_fl _ _ | exact trivial | rfl | exact subVs_d _ _ | refine And.intro ?_ ?_))
    · simp only [wkA, reduceIte, Nat.reduceEqDiff]
      (repeat' (first | exact subVs_fl _ _ | exact trivial | rfl | exact subVs_d _ _ | refine And.intro ?_ ?_))
end Go.Proofs.Ythidfoohhhkobaa

