import Derived.Test.YthidfoohhhkobaaH20
import Derived.Test.YthidfoohhhkobaaH21
namespace Go.Proofs.Ythidfoohhhkobaa
set_option linter.unusedSimpArgs false
set_option linter.unusedVariables false
open Go.RowKit
set_option maxRecDepth 100000
set_option maxHeartbeats 4000000
theorem hd_b0 (h : Hd) (x y z : Int) : splice (dV (handD h)) 0 [vI x, vI y, vI z] = dV (handD { h with line := x, at_ := y, arr := z }) := rfl
theorem ghas_spec (l : List Hd) (h : Hd) (hl : l.length ≤ 140737488351232) : Spec Try.prog 13 [.one (handsD l), .agg (handD h)] (.r1 (aB (decide (h ∈ l)))) := by
  refine spec_of T_ok Try.func13 (by dsimp only [Try.f13]) rfl rfl (by simp) fun w F => ?_
  repeat' (first | (with_reducible refine aw_seq ?_) | ((with_reducible refine twoG_intro ?_ ?_) <;> intro h <;> first | (exact Bool.noConfusion h) | ((try simp only [h, avT]); (first | (guard_hyp h : true = true; clear h) | (guard_hyp h : false = false; clear h) | (revert h; intro _)))) | ((with_reducible refine two_intro ?_ ?_) <;> intro h <;> first | (exact Bool.noConfusion h) | ((first | (guard_hyp h : true = true; clear h) | (guard_hyp h : false = false; clear h) | (revert h; intro _)))) | ((with_reducible refine And.intro ?_ ?_); (focus (first | exact eqHand | omega | rfl | decide | grind))) | (with_reducible refine aw_block ?_) | (with_reducible refine aw_scope ?_) | ((first | ((with_reducible refine aw_regionA T_ok ?_ ?_); kernel_rfl) | ((with_reducible refine aw_drawnA T_ok ?_ ?_ ?_ ?_); kernel_rfl; kernel_rfl; (focus (decide +kernel))) | ((with_reducible refine aw_drawnF T_ok ?_ ?_ ?_ ?_); kernel_rfl; kernel_rfl; (focus (decide +kernel))) | (with_reducible refine aw_label ?_) | ((with_reducible refine aw_rfM ?_ ?_); kernel_rfl) | (with_reducible refine aw_skip ?_) | (with_reducible refine aw_exit ?_) | ((with_reducible refine aw_condM ?_ ?_); kernel_rfl) | (with_reducible refine aw_ret ?_)); simp only [↓avP, avQ, avR, forall_const, implies_true, reduceIte, Nat.reduceEqDiff, Nat.reduceAdd, Nat.reduceSub, Int.reduceToNat, Nat.reduceLeDiff, Nat.reduceLT, reduceCtorEq, Int.reduceEq, avS, peer_h, peer_tk, List.getD_cons_zero, List.getD_cons_succ, rm_dr, by_h, by_get, getD_hands, ↓hd_b0, ↓hd_t4, ↓hd_t5, ↓hd_s6, ↓hd_s39, ↓ac_s0, ↓ac_s1, ↓ac_s2, ↓ac_s3, ↓ac_s4, dA_k, dA_p, dA_t, dA_a, dA_h, u8s_by, strOf_by, str_tl, roomD_B, pkD_B, actS, ↓zA_one, ↓zA_cells, zA_map, ↓zA_D, ty_A, handS, hd_dr, ↓zH_one, ↓zH_cells, zH_map, ↓zH_D, List.append_nil, ty_H, ty_3, ty_4, ty_5, ty_9, ty_40, ty_44, ty_31, ty_22, ty_25, ty_55, ty_32, ty_29, ty_26, ty_63, ty_48, ty_23]; try simp (disch := omega) only [av_w, av_t1, av_tp, Int.toNat_natCast]))
  refine aw_loopI (fun k : Nat => ⟨[(3, .ptr 0 0), (7, .d (handsD l)), (8, vI l.length), (9, vI k)], [(0, .cells 46 (dV (handD h)))], 1⟩) (fun k => k ≤ l.length ∧ ∀ i, i < k → l.getD i default ≠ h) (fun k => l.length - k) 0 ⟨Nat.zero_le _, fun i hi => absurd hi (Nat.not_lt_zero i)⟩ (wk_of [(0, some 0)] rfl rfl ?_ ?_) ?_
  · simp only [wkA, reduceIte, Nat.reduceEqDiff]
    (repeat' (first | exact trivial | rfl | exact rfl | exact subVs_d _ _ | exact subVs_dm _ _ | exact subD_refl _ | refine And.intro ?_ ?_))
  · simp only [wkA, reduceIte, Nat.reduceEqDiff]
    (repeat' (first | exact trivial | rfl | exact rfl | exact subVs_d _ _ | exact subVs_dm _ _ | exact subD_refl _ | refine And.intro ?_ ?_))
  rintro k ⟨hk, h0⟩
  rcases Nat.lt_or_ge k l.length with hlt | hge
  · have hd2 := ltd hlt
    have hm : l.getD k default ∈ l := mem_getD hlt
    by_cases he : l.getD k default = h
    · have hde : decide (l.getD k default = h) = true := decide_eq_true he
      repeat' (first | (with_reducible refine aw_seq ?_) | ((with_reducible refine twoG_intro ?_ ?_) <;> intro h <;> first | (exact Bool.noConfusion h) | ((try simp only [h, avT]); (first | (guard_hyp h : true = true; clear h) | (guard_hyp h : false = false; clear h) | (revert h; intro _)))) | ((with_reducible refine two_intro ?_ ?_) <;> intro h <;> first | (exact Bool.noConfusion h) | ((first | (guard_hyp h : true = true; clear h) | (guard_hyp h : false = false; clear h) | (revert h; intro _)))) | ((with_reducible refine And.intro ?_ ?_); (focus (first | exact eqHand | omega | rfl | decide | grind))) | (with_reducible refine aw_block ?_) | (with_reducible refine aw_scope ?_) | ((first | ((with_reducible refine aw_regionA T_ok ?_ ?_); kernel_rfl) | ((with_reducible refine aw_drawnA T_ok ?_ ?_ ?_ ?_); kernel_rfl; kernel_rfl; (focus (decide +kernel))) | ((with_reducible refine aw_drawnF T_ok ?_ ?_ ?_ ?_); kernel_rfl; kernel_rfl; (focus (decide +kernel))) | (with_reducible refine aw_label ?_) | ((with_reducible refine aw_rfM ?_ ?_); kernel_rfl) | (with_reducible refine aw_skip ?_) | (with_reducible refine aw_exit ?_) | ((with_reducible refine aw_condM ?_ ?_); kernel_rfl) | (with_reducible refine aw_ret ?_)); simp only [↓avP, avQ, avR, forall_const, implies_true, reduceIte, Nat.reduceEqDiff, Nat.reduceAdd, Nat.reduceSub, Int.reduceToNat, Nat.reduceLeDiff, Nat.reduceLT, reduceCtorEq, Int.reduceEq, avS, peer_h, peer_tk, List.getD_cons_zero, List.getD_cons_succ, rm_dr, by_h, by_get, getD_hands, ↓hd_b0, ↓hd_t4, ↓hd_t5, ↓hd_s6, ↓hd_s39, ↓ac_s0, ↓ac_s1, ↓ac_s2, ↓ac_s3, ↓ac_s4, dA_k, dA_p, dA_t, dA_a, dA_h, u8s_by, strOf_by, str_tl, roomD_B, pkD_B, actS, ↓zA_one, ↓zA_cells, zA_map, ↓zA_D, ty_A, handS, hd_dr, ↓zH_one, ↓zH_cells, zH_map, ↓zH_D, List.append_nil, ty_H, ty_3, ty_4, ty_5, ty_9, ty_40, ty_44, ty_31, ty_22, ty_25, ty_55, ty_32, ty_29, ty_26, ty_63, ty_48, ty_23, hd2, hde]; try simp (disch := omega) only [av_w, av_t1, av_tp, Int.toNat_natCast]))
      exact Sub.of_eq (congrArg aB (decide_eq_true (he ▸ hm)).symm)
    · have hde : decide (l.getD k default = h) = false := decide_eq_false he
      repeat' (first | (with_reducible refine aw_seq ?_) | ((with_reducible refine twoG_intro ?_ ?_) <;> intro h <;> first | (exact Bool.noConfusion h) | ((try simp only [h, avT]); (first | (guard_hyp h : true = true; clear h) | (guard_hyp h : false = false; clear h) | (revert h; intro _)))) | ((with_reducible refine two_intro ?_ ?_) <;> intro h <;> first | (exact Bool.noConfusion h) | ((first | (guard_hyp h : true = true; clear h) | (guard_hyp h : false = false; clear h) | (revert h; intro _)))) | ((with_reducible refine And.intro ?_ ?_); (focus (first | exact eqHand | omega | rfl | decide | grind))) | (with_reducible refine aw_block ?_) | (with_reducible refine aw_scope ?_) | ((first | ((with_reducible refine aw_regionA T_ok ?_ ?_); kernel_rfl) | ((with_reducible refine aw_drawnA T_ok ?_ ?_ ?_ ?_); kernel_rfl; kernel_rfl; (focus (decide +kernel))) | ((with_reducible refine aw_drawnF T_ok ?_ ?_ ?_ ?_); kernel_rfl; kernel_rfl; (focus (decide +kernel))) | (with_reducible refine aw_label ?_) | ((with_reducible refine aw_rfM ?_ ?_); kernel_rfl) | (with_reducible refine aw_skip ?_) | (with_reducible refine aw_exit ?_) | ((with_reducible refine aw_condM ?_ ?_); kernel_rfl) | (with_reducible refine aw_ret ?_)); simp only [↓avP, avQ, avR, forall_const, implies_true, reduceIte, Nat.reduceEqDiff, Nat.reduceAdd, Nat.reduceSub, Int.reduceToNat, Nat.reduceLeDiff, Nat.reduceLT, reduceCtorEq, Int.reduceEq, avS, peer_h, peer_tk, List.getD_cons_zero, List.getD_cons_succ, rm_dr, by_h, by_get, getD_hands, ↓hd_b0, ↓hd_t4, ↓hd_t5, ↓hd_s6, ↓hd_s39, ↓ac_s0, ↓ac_s1, ↓ac_s2, ↓ac_s3, ↓ac_s4, dA_k, dA_p, dA_t, dA_a, dA_h, u8s_by, strOf_by, str_tl, roomD_B, pkD_B, actS, ↓zA_one, ↓zA_cells, zA_map, ↓zA_D, ty_A, handS, hd_dr, ↓zH_one, ↓zH_cells, zH_map, ↓zH_D, List.append_nil, ty_H, ty_3, ty_4, ty_5, ty_9, ty_40, ty_44, ty_31, ty_22, ty_25, ty_55, ty_32, ty_29, ty_26, ty_63, ty_48, ty_23, hd2, hde]; try simp (disch := omega) only [av_w, av_t1, av_tp, Int.toNat_natCast]))
      refine ⟨k + 1, ⟨by omega, fun i hi => ?_⟩, by dsimp only; omega, wk_of [(0, some 0)] rfl rfl ?_ ?_⟩
      · rcases Nat.lt_succ_iff_lt_or_eq.1 hi with h' | rfl
        · exact h0 i h'
        · exact he
      · simp only [wkA, reduceIte, Nat.reduceEqDiff]
        (repeat' (first | exact trivial | rfl | exact rfl | exact subVs_d _ _ | exact subVs_dm _ _ | exact subD_refl _ | refine And.intro ?_ ?_))
      · simp only [wkA, reduceIte, Nat.reduceEqDiff]
        (repeat' (first | exact trivial | rfl | exact rfl | exact subVs_d _ _ | exact subVs_dm _ _ | exact subD_refl _ | refine And.intro ?_ ?_))
  · obtain rfl : k = l.length := by omega
    have hd2 := ged (Nat.le_refl l.length)
    repeat' (first | (with_reducible refine aw_seq ?_) | ((with_reducible refine twoG_intro ?_ ?_) <;> intro h <;> first | (exact Bool.noConfusion h) | ((try simp only [h, avT]); (first | (guard_hyp h : true = true; clear h) | (guard_hyp h : false = false; clear h) | (revert h; intro _)))) | ((with_reducible refine two_intro ?_ ?_) <;> intro h <;> first | (exact Bool.noConfusion h) | ((first | (guard_hyp h : true = true; clear h) | (guard_hyp h : false = false; clear h) | (revert h; intro _)))) | ((with_reducible refine And.intro ?_ ?_); (focus (first | exact eqHand | omega | rfl | decide | grind))) | (with_reducible refine aw_block ?_) | (with_reducible refine aw_scope ?_) | ((first | ((with_reducible refine aw_regionA T_ok ?_ ?_); kernel_rfl) | ((with_reducible refine aw_drawnA T_ok ?_ ?_ ?_ ?_); kernel_rfl; kernel_rfl; (focus (decide +kernel))) | ((with_reducible refine aw_drawnF T_ok ?_ ?_ ?_ ?_); kernel_rfl; kernel_rfl; (focus (decide +kernel))) | (with_reducible refine aw_label ?_) | ((with_reducible refine aw_rfM ?_ ?_); kernel_rfl) | (with_reducible refine aw_skip ?_) | (with_reducible refine aw_exit ?_) | ((with_reducible refine aw_condM ?_ ?_); kernel_rfl) | (with_reducible refine aw_ret ?_)); simp only [↓avP, avQ, avR, forall_const, implies_true, reduceIte, Nat.reduceEqDiff, Nat.reduceAdd, Nat.reduceSub, Int.reduceToNat, Nat.reduceLeDiff, Nat.reduceLT, reduceCtorEq, Int.reduceEq, avS, peer_h, peer_tk, List.getD_cons_zero, List.getD_cons_succ, rm_dr, by_h, by_get, getD_hands, ↓hd_b0, ↓hd_t4, ↓hd_t5, ↓hd_s6, ↓hd_s39, ↓ac_s0, ↓ac_s1, ↓ac_s2, ↓ac_s3, ↓ac_s4, dA_k, dA_p, dA_t, dA_a, dA_h, u8s_by, strOf_by, str_tl, roomD_B, pkD_B, actS, ↓zA_one, ↓zA_cells, zA_map, ↓zA_D, ty_A, handS, hd_dr, ↓zH_one, ↓zH_cells, zH_map, ↓zH_D, List.append_nil, ty_H, ty_3, ty_4, ty_5, ty_9, ty_40, ty_44, ty_31, ty_22, ty_25, ty_55, ty_32, ty_29, ty_26, ty_63, ty_48, ty_23, hd2]; try simp (disch := omega) only [av_w, av_t1, av_tp, Int.toNat_natCast]))
    refine Sub.of_eq (congrArg aB (decide_eq_false fun hm => ?_).symm)
    obtain ⟨i, hi, e⟩ := List.mem_iff_getElem.1 hm
    exact h0 i hi (by rw [getD_atH hi]; exact e)
def exH (n : Int) : Hd := { (default : Hd) with line := 1, at_ := 5, arr := 9, frm := 3, to_ := 4, many := n, time := 7 }
theorem ghand_spec (n : Int) : Spec Try.prog 17 [aI n] (.r1 (.agg (handD (exH n)))) := by
  refine spec_of T_ok Try.func17 (by dsimp only [Try.f17]) rfl rfl (by simp) fun w F => ?_
  repeat' (first | (with_reducible refine aw_seq ?_) | ((with_reducible refine twoG_intro ?_ ?_) <;> intro h <;> first | (exact Bool.noConfusion h) | ((try simp only [h, avT]); (first | (guard_hyp h : true = true; clear h) | (guard_hyp h : false = false; clear h) | (revert h; intro _)))) | ((with_reducible refine two_intro ?_ ?_) <;> intro h <;> first | (exact Bool.noConfusion h) | ((first | (guard_hyp h : true = true; clear h) | (guard_hyp h : false = false; clear h) | (revert h; intro _)))) | ((with_reducible refine And.intro ?_ ?_); (focus (first | exact eqHand | omega | rfl | decide | grind))) | (with_reducible refine aw_block ?_) | (with_reducible refine aw_scope ?_) | ((first | ((with_reducible refine aw_regionA T_ok ?_ ?_); kernel_rfl) | ((with_reducible refine aw_drawnA T_ok ?_ ?_ ?_ ?_); kernel_rfl; kernel_rfl; (focus (decide +kernel))) | ((with_reducible refine aw_drawnF T_ok ?_ ?_ ?_ ?_); kernel_rfl; kernel_rfl; (focus (decide +kernel))) | (with_reducible refine aw_label ?_) | ((with_reducible refine aw_rfM ?_ ?_); kernel_rfl) | (with_reducible refine aw_skip ?_) | (with_reducible refine aw_exit ?_) | ((with_reducible refine aw_condM ?_ ?_); kernel_rfl) | (with_reducible refine aw_ret ?_)); simp only [↓avP, avQ, avR, forall_const, implies_true, reduceIte, Nat.reduceEqDiff, Nat.reduceAdd, Nat.reduceSub, Int.reduceToNat, Nat.reduceLeDiff, Nat.reduceLT, reduceCtorEq, Int.reduceEq, avS, peer_h, peer_tk, List.getD_cons_zero, List.getD_cons_succ, rm_dr, by_h, by_get, getD_hands, ↓hd_b0, ↓hd_t4, ↓hd_t5, ↓hd_s6, ↓hd_s39, ↓ac_s0, ↓ac_s1, ↓ac_s2, ↓ac_s3, ↓ac_s4, dA_k, dA_p, dA_t, dA_a, dA_h, u8s_by, strOf_by, str_tl, roomD_B, pkD_B, actS, ↓zA_one, ↓zA_cells, zA_map, ↓zA_D, ty_A, handS, hd_dr, ↓zH_one, ↓zH_cells, zH_map, ↓zH_D, List.append_nil, ty_H, ty_3, ty_4, ty_5, ty_9, ty_40, ty_44, ty_31, ty_22, ty_25, ty_55, ty_32, ty_29, ty_26, ty_63, ty_48, ty_23]; try simp (disch := omega) only [av_w, av_t1, av_tp, Int.toNat_natCast]))
  exact Sub.refl _
theorem exH_form : fH (exH 2) := ⟨by decide +kernel, by
  have z : ∀ n : Int, 0 ≤ n → n ≤ 9 → Cd.i64R n := fun n a b => ⟨by omega, by omega⟩
  exact ⟨z 1 (by omega) (by omega), z 5 (by omega) (by omega), z 9 (by omega) (by omega), z 0 (by omega) (by omega), z 3 (by omega) (by omega), z 4 (by omega) (by omega), z 2 (by omega) (by omega), z 7 (by omega) (by omega), z 0 (by omega) (by omega), z 0 (by omega) (by omega)⟩⟩
abbrev two : RoomP := ⟨[[], []], net0⟩
abbrev exX (h : Hd) : RoomP := ⟨[[], [h]], ⟨[⟨1, 0, msg h⟩], []⟩⟩
abbrev exY (h : Hd) : RoomP := ⟨[[h], [h]], net0⟩
theorem new2 : newR 2 = two := by unfold newR; rw [if_neg (by omega)]; rfl
theorem two_inv (T : List Hd) (hT : ∀ x ∈ T, fH x) : RInv 2 T two := by
  have := (RInv.nw (n := 2) (by omega) (by omega)).mono (T' := T) (fun x hx => by cases hx) hT
  rw [new2] at this
  exact this
theorem do_x {h : Hd} (hh : fH h) : doE two ⟨1, 1, 0, 0, h⟩ = 0 ∧ doR two ⟨1, 1, 0, 0, h⟩ = exX h := by
  have hI := two_inv [] (by simp)
  have hE : doE two ⟨1, 1, 0, 0, h⟩ = 0 := by
    rw [hI.do ⟨by simp, by simp⟩]
    simp [actE, inR, hh.1]
  refine ⟨hE, ?_⟩
  rw [doR, if_pos hE, actR, if_pos rfl]
  rfl
theorem do_z : doE two ⟨1, 0, 0, 0, default⟩ = 480 ∧ doR two ⟨1, 0, 0, 0, default⟩ = room0 := by
  have hI := two_inv [] (by simp)
  have hf : formB (default : Hd) = false := by decide +kernel
  have hE : doE two ⟨1, 0, 0, 0, default⟩ = 480 := by
    rw [hI.do ⟨by simp, by simp⟩]
    simp [actE, inR, hf]
  exact ⟨hE, by rw [doR, hE]; rfl⟩
theorem do_i : doE two (delA 0) = 1 ∧ doR two (delA 0) = room0 := by
  have hI := two_inv [] (by simp)
  have hE : doE two (delA 0) = 1 := by
    rw [hI.do ⟨by simp, by simp⟩]
    have := hI.atE (i := 0) ⟨by simp, by simp⟩
    unfold actE
    rw [if_neg (show ¬ (3 : Int) = 1 by decide), if_neg (show ¬ (3 : Int) = 2 by decide), if_pos (.inl rfl)]
    rw [this]; rfl
  exact ⟨hE, by rw [doR, hE]; rfl⟩
theorem ex_inv {h : Hd} (hh : fH h) : RInv 2 [h] (exX h) := by
  have hT : ∀ x ∈ [h], fH x := fun x hx => by rw [List.mem_singleton.1 hx]; exact hh
  refine ⟨rfl, by omega, by omega, hT, fun l hl => ?_, fun l hl x hx => ?_, fun p hp => ?_, rfl⟩
  · simp only [List.mem_cons, List.not_mem_nil, or_false] at hl
    rcases hl with rfl | rfl
    · exact List.Pairwise.nil
    · exact List.pairwise_singleton _ _
  · simp only [List.mem_cons, List.not_mem_nil, or_false] at hl
    rcases hl with rfl | rfl
    · cases hx
    · exact hx
  · rw [List.mem_singleton.1 hp]
    exact ⟨h, by simp, rfl, by simp, by simp, by simp, by simp, by simp⟩
theorem do_y {h : Hd} (hh : fH h) : doE (exX h) (delA 0) = 0 ∧ doR (exX h) (delA 0) = exY h := by
  obtain ⟨h0, y, y1, p, p1, p2, p3, p4, e⟩ := (ex_inv hh).del ⟨by simp, by simp⟩ (i := 0) (by simp)
  refine ⟨h0, ?_⟩
  have hp : p = ⟨1, 0, msg h⟩ := by simpa using p1.symm
  have hy : y = h := by simpa using y1
  rw [show ((0 : Nat) : Int) = 0 from rfl] at e
  rw [e, hp, hy]
  rfl
theorem gsane_spec : Spec Try.prog 7 [] (.r1 (aB true)) := by
  have hh := exH_form
  have hnew := gnew_spec 2
  have hnew0 := gnew_spec 0
  have he2 : newE 2 = 0 := rfl
  have he0 : newE 0 = 1 := rfl
  have hr0 : newR 0 = room0 := rfl
  rw [new2, he2] at hnew
  rw [hr0, he0] at hnew0
  have hhd := ghand_spec 2
  obtain ⟨x1, x2⟩ := do_x hh
  obtain ⟨z1, z2⟩ := do_z
  obtain ⟨i1, i2⟩ := do_i
  obtain ⟨y1, y2⟩ := do_y hh
  have k1 : Cd.i64R 1 := ⟨by decide, by decide⟩
  have k3 : Cd.i64R 3 := ⟨by decide, by decide⟩
  have hTI := two_inv [] (by simp)
  have hXI := ex_inv hh
  have dx := gdo_spec two ⟨1, 1, 0, 0, exH 2⟩ (hTI.ok (by simp) (by simp)) (fun _ => hTI.few (by simp) (by simp)) hh.2 k1
  have dz := gdo_spec two ⟨1, 0, 0, 0, default⟩ (hTI.ok (by simp) (by simp)) (fun _ => hTI.few (by simp) (by simp)) hOk_zero k1
  have di := gdo_spec two (delA 0) (hTI.ok (by simp) (by simp)) (fun _ => hTI.few (by simp) (by simp)) hOk_zero k3
  have dy := gdo_spec (exX (exH 2)) (delA 0) (hXI.ok (by simp) (by simp)) (fun _ => hXI.few (by simp) (by simp)) hOk_zero k3
  rw [x1, x2] at dx
  rw [z1, z2] at dz
  rw [i1, i2] at di
  rw [y1, y2] at dy
  have hYI : RInv 2 [exH 2] (exY (exH 2)) := by
    obtain ⟨_, h1, _, _⟩ := hXI.del_ok ⟨by simp, by simp⟩ (i := 0) (by simp)
    rw [show ((0 : Nat) : Int) = 0 from rfl, y2] at h1
    exact h1
  have c0 := gcheck_spec room0 ⟨by simp, by simp, ⟨by simp, by simp⟩, by simp⟩
  have cy := gcheck_spec (exY (exH 2)) (hYI.ok (by simp) (by simp))
  rw [show roomChk room0 = 540 from rfl] at c0
  rw [hYI.chk (by simp) (by simp)] at cy
  have hms := q54message_spec (exH 2) hh.2
  have hsh := q54sameHands_spec [exH 2] (by simp)
  have c00 := spec_sub (xs := [.agg [.c (.slice none 0 0), .c (.slice none 0 0), .c (.slice none 0 0)]]) c0 ⟨sub_room0, trivial⟩
  have q1 : (((1 : Nat) : Int) == 1) = true := rfl
  have q0 : (((0 : Nat) : Int) == 0) = true := rfl
  have q2 : (((2 : Nat) : Int) != 2) = false := rfl
  have q3 : ((0 : Int) != 0) = false := rfl
  have q4 : ((1 : Int) != 1) = false := rfl
  have q5 : ((480 : Int) != 480) = false := rfl
  have q6 : ((540 : Int) == 540) = true := rfl
  have q7 : ((0 : Int) == 0) = true := rfl
  have q8 : (msg (exH 2) == msg (exH 2)) = true := by simp
  generalize exH 2 = h at *
  refine spec_of T_ok Try.func7 (by dsimp only [Try.f7]) rfl rfl (by simp) fun w F => ?_
  repeat' (first | (with_reducible refine aw_seq ?_) | ((with_reducible refine twoG_intro ?_ ?_) <;> intro h <;> first | (exact Bool.noConfusion h) | ((try simp only [h, avT]); (first | (guard_hyp h : true = true; clear h) | (guard_hyp h : false = false; clear h) | (revert h; intro _)))) | ((with_reducible refine two_intro ?_ ?_) <;> intro h <;> first | (exact Bool.noConfusion h) | ((first | (guard_hyp h : true = true; clear h) | (guard_hyp h : false = false; clear h) | (revert h; intro _)))) | ((with_reducible refine And.intro ?_ ?_); (focus (first | exact eqHand | omega | rfl | decide | grind))) | (with_reducible refine aw_block ?_) | (with_reducible refine aw_scope ?_) | ((first | ((with_reducible refine aw_regionA T_ok ?_ ?_); kernel_rfl) | ((with_reducible refine aw_drawnEA (id := 3) [(8, 7)] [] T_ok ?_ ?_ ?_ ?_ ?_); kernel_rfl; kernel_rfl; (focus (decide +kernel)); kernel_rfl) | ((with_reducible refine aw_drawnA T_ok ?_ ?_ ?_ ?_); kernel_rfl; kernel_rfl; (focus (decide +kernel))) | ((with_reducible refine aw_drawnF T_ok ?_ ?_ ?_ ?_); kernel_rfl; kernel_rfl; (focus (decide +kernel))) | ((with_reducible refine callK_intro (hnew) ?_ ?_ ?_); (focus (first | with_unfolding_all rfl | ((repeat' (first | exact ta_n | refine ta_a ?_ | refine ta_d ?_ | refine ta_o ?_)); done))); kernel_rfl) | ((with_reducible refine callI_spec (hnew) ?_ ?_ ?_ ?_); (focus (first | with_unfolding_all rfl | ((repeat' (first | exact ta_n | refine ta_a ?_ | refine ta_d ?_ | refine ta_o ?_)); done))); kernel_rfl; kernel_rfl) | ((with_reducible refine callK_intro (hnew0) ?_ ?_ ?_); (focus (first | with_unfolding_all rfl | ((repeat' (first | exact ta_n | refine ta_a ?_ | refine ta_d ?_ | refine ta_o ?_)); done))); kernel_rfl) | ((with_reducible refine callI_spec (hnew0) ?_ ?_ ?_ ?_); (focus (first | with_unfolding_all rfl | ((repeat' (first | exact ta_n | refine ta_a ?_ | refine ta_d ?_ | refine ta_o ?_)); done))); kernel_rfl; kernel_rfl) | ((with_reducible refine callK_intro (hhd) ?_ ?_ ?_); (focus (first | with_unfolding_all rfl | ((repeat' (first | exact ta_n | refine ta_a ?_ | refine ta_d ?_ | refine ta_o ?_)); done))); kernel_rfl) | ((with_reducible refine callI_spec (hhd) ?_ ?_ ?_ ?_); (focus (first | with_unfolding_all rfl | ((repeat' (first | exact ta_n | refine ta_a ?_ | refine ta_d ?_ | refine ta_o ?_)); done))); kernel_rfl; kernel_rfl) | ((with_reducible refine callK_intro (dx) ?_ ?_ ?_); (focus (first | with_unfolding_all rfl | ((repeat' (first | exact ta_n | refine ta_a ?_ | refine ta_d ?_ | refine ta_o ?_)); done))); kernel_rfl) | ((with_reducible refine callI_spec (dx) ?_ ?_ ?_ ?_); (focus (first | with_unfolding_all rfl | ((repeat' (first | exact ta_n | refine ta_a ?_ | refine ta_d ?_ | refine ta_o ?_)); done))); kernel_rfl; kernel_rfl) | ((with_reducible refine callK_intro (dz) ?_ ?_ ?_); (focus (first | with_unfolding_all rfl | ((repeat' (first | exact ta_n | refine ta_a ?_ | refine ta_d ?_ | refine ta_o ?_)); done))); kernel_rfl) | ((with_reducible refine callI_spec (dz) ?_ ?_ ?_ ?_); (focus (first | with_unfolding_all rfl | ((repeat' (first | exact ta_n | refine ta_a ?_ | refine ta_d ?_ | refine ta_o ?_)); done))); kernel_rfl; kernel_rfl) | ((with_reducible refine callK_intro (di) ?_ ?_ ?_); (focus (first | with_unfolding_all rfl | ((repeat' (first | exact ta_n | refine ta_a ?_ | refine ta_d ?_ | refine ta_o ?_)); done))); kernel_rfl) | ((with_reducible refine callI_spec (di) ?_ ?_ ?_ ?_); (focus (first | with_unfolding_all rfl | ((repeat' (first | exact ta_n | refine ta_a ?_ | refine ta_d ?_ | refine ta_o ?_)); done))); kernel_rfl; kernel_rfl) | ((with_reducible refine callK_intro (dy) ?_ ?_ ?_); (focus (first | with_unfolding_all rfl | ((repeat' (first | exact ta_n | refine ta_a ?_ | refine ta_d ?_ | refine ta_o ?_)); done))); kernel_rfl) | ((with_reducible refine callI_spec (dy) ?_ ?_ ?_ ?_); (focus (first | with_unfolding_all rfl | ((repeat' (first | exact ta_n | refine ta_a ?_ | refine ta_d ?_ | refine ta_o ?_)); done))); kernel_rfl; kernel_rfl) | ((with_reducible refine callK_intro (c00) ?_ ?_ ?_); (focus (first | with_unfolding_all rfl | ((repeat' (first | exact ta_n | refine ta_a ?_ | refine ta_d ?_ | refine ta_o ?_)); done))); kernel_rfl) | ((with_reducible refine callI_spec (c00) ?_ ?_ ?_ ?_); (focus (first | with_unfolding_all rfl | ((repeat' (first | exact ta_n | refine ta_a ?_ | refine ta_d ?_ | refine ta_o ?_)); done))); kernel_rfl; kernel_rfl) | ((with_reducible refine callK_intro (cy) ?_ ?_ ?_); (focus (first | with_unfolding_all rfl | ((repeat' (first | exact ta_n | refine ta_a ?_ | refine ta_d ?_ | refine ta_o ?_)); done))); kernel_rfl) | ((with_reducible refine callI_spec (cy) ?_ ?_ ?_ ?_); (focus (first | with_unfolding_all rfl | ((repeat' (first | exact ta_n | refine ta_a ?_ | refine ta_d ?_ | refine ta_o ?_)); done))); kernel_rfl; kernel_rfl) | ((with_reducible refine callK_intro (hms) ?_ ?_ ?_); (focus (first | with_unfolding_all rfl | ((repeat' (first | exact ta_n | refine ta_a ?_ | refine ta_d ?_ | refine ta_o ?_)); done))); kernel_rfl) | ((with_reducible refine callI_spec (hms) ?_ ?_ ?_ ?_); (focus (first | with_unfolding_all rfl | ((repeat' (first | exact ta_n | refine ta_a ?_ | refine ta_d ?_ | refine ta_o ?_)); done))); kernel_rfl; kernel_rfl) | ((with_reducible refine callK_intro (hsh) ?_ ?_ ?_); (focus (first | with_unfolding_all rfl | ((repeat' (first | exact ta_n | refine ta_a ?_ | refine ta_d ?_ | refine ta_o ?_)); done))); kernel_rfl) | ((with_reducible refine callI_spec (hsh) ?_ ?_ ?_ ?_); (focus (first | with_unfolding_all rfl | ((repeat' (first | exact ta_n | refine ta_a ?_ | refine ta_d ?_ | refine ta_o ?_)); done))); kernel_rfl; kernel_rfl) | (with_reducible refine fin2_intro ?_) | (with_reducible refine aw_label ?_) | ((with_reducible refine aw_rfM ?_ ?_); kernel_rfl) | (with_reducible refine aw_skip ?_) | (with_reducible refine aw_exit ?_) | ((with_reducible refine aw_condM ?_ ?_); kernel_rfl) | (with_reducible refine aw_ret ?_)); simp only [↓avP, avQ, avR, forall_const, implies_true, reduceIte, Nat.reduceEqDiff, Nat.reduceAdd, Nat.reduceSub, Int.reduceToNat, Nat.reduceLeDiff, Nat.reduceLT, reduceCtorEq, Int.reduceEq, ↓earlyL.eq_def, Option.map_some, avS, peer_h, peer_tk, List.getD_cons_zero, List.getD_cons_succ, rm_dr, by_h, by_get, getD_hands, ↓hd_b0, ↓hd_t4, ↓hd_t5, ↓hd_s6, ↓hd_s39, ↓ac_s0, ↓ac_s1, ↓ac_s2, ↓ac_s3, ↓ac_s4, dA_k, dA_p, dA_t, dA_a, dA_h, u8s_by, strOf_by, str_tl, roomD_B, pkD_B, actS, ↓zA_one, ↓zA_cells, zA_map, ↓zA_D, ty_A, handS, hd_dr, ↓zH_one, ↓zH_cells, zH_map, ↓zH_D, List.append_nil, ty_H, ty_3, ty_4, ty_5, ty_9, ty_40, ty_44, ty_31, ty_22, ty_25, ty_55, ty_32, ty_29, ty_26, ty_63, ty_48, ty_23, q1, q0, q2, q3, q4, q5, q6, q7, q8]; try simp (disch := omega) only [av_w, av_t1, av_tp, Int.toNat_natCast]))
  all_goals exact Sub.refl _

theorem mod4 {u : Int} (hu : 0 ≤ u ∧ u ≤ 255) : ∃ m : Int, IntKind.i64.wrap u = u ∧ u.tmod 4 = m ∧ 0 ≤ m ∧ m ≤ 3 ∧ IntKind.i64.wrap (1 + m) = 1 + m := by
  have h1 : u.tmod 4 = u % 4 := Int.tmod_eq_emod_of_nonneg hu.1
  exact ⟨u % 4, by rw [IntKind.wrap_i64]; omega, h1, by omega, by omega, by rw [IntKind.wrap_i64]; omega⟩
theorem wrap_ab {a b : Nat} (ha : a ≤ 4000) (hb : b ≤ 4) : IntKind.i64.wrap (IntKind.i64.wrap ((a : Int) + (b : Int)) - 1) = (a : Int) + (b : Int) - 1 := by
  have h1 : IntKind.i64.wrap ((a : Int) + (b : Int)) = (a : Int) + (b : Int) := by rw [IntKind.wrap_i64]; omega
  rw [h1, IntKind.wrap_i64]; omega
theorem bne_f {a b : Int} (h : a = b) : (a != b) = false := by subst h; exact bne_self_eq_false a
theorem wrap_add {a b : Nat} (ha : a ≤ 4000) (hb : b ≤ 4000) : IntKind.i64.wrap ((a : Int) + (b : Int)) = (a : Int) + (b : Int) := by rw [IntKind.wrap_i64]; omega

theorem q54learn_spec (t : List Hd) (h : Hd) (ho : ordH t) (hf : ∀ x ∈ t, fH x) (hh : fH h) (hl : t.length < 4096) : Spec Try.prog 19 [.one (handsD t), .agg (handD h)] (.rt [.one (handsD (learnL t h)), aI 0]) := by
  have hlen := lbH_le t h
  refine spec_of T_ok Try.func19 (by dsimp only [Try.f19]) rfl rfl (by simp) fun w F => ?_
  repeat' (first | (with_reducible refine aw_seq ?_) | (with_reducible refine aw_block ?_) | ((((with_reducible refine aw_regionA T_ok ?_ ?_); kernel_rfl)); simp only [↓avP, avQ, avR, forall_const, implies_true, Nat.reduceEqDiff, Nat.reduceAdd, reduceCtorEq]; try simp (disch := omega) only [av_w, av_t1, av_tp, Int.toNat_natCast]))
  refine aw_loopI (fun k : Nat => ⟨[(0, .d (handsD t)), (3, .ptr 0 0), (6, vI k)], [(0, .cells 46 (dV (handD h)))], 1⟩) (fun k => k ≤ t.length ∧ ∀ i, i < k → befB (t.getD i default) h = true) (fun k => t.length - k) 0 ⟨Nat.zero_le _, fun i hi => absurd hi (Nat.not_lt_zero i)⟩ (wk_of [(0, some 0)] rfl rfl ?_ ?_) ?_
  · simp only [wkA, reduceIte, Nat.reduceEqDiff]
    (repeat' (first | rfl | exact subVs_d _ _))
  · simp only [wkA, reduceIte, Nat.reduceEqDiff]
    (repeat' (first | rfl | exact subVs_d _ _))
  rintro k ⟨hk, h0⟩
  have rest : (k < t.length → befB (t.getD k default) h = false) → lbH t h = k := fun hb => lbH_of hk h0 hb
  have ins_eq : foundH t h = false → handsD (learnL t h) = .sl 42 (handD default) ((t.map handD).take (lbH t h) ++ [handD h] ++ (t.map handD).drop (lbH t h)) := fun e => by
    unfold learnL
    rw [if_neg (by rw [e]; simp)]
    simp [List.map_append, List.map_take, List.map_drop]
  have nf : t.getD (lbH t h) default ≠ h → foundH t h = false := fun e => by
    unfold foundH
    cases hc : decide (lbH t h < t.length) with
    | false => rfl
    | true =>
      rw [Bool.true_and]
      have hm : t.getD (lbH t h) default ∈ t := mem_getD (of_decide_eq_true hc)
      refine beq_eq_false_iff_ne.2 fun hz => e ?_
      exact msg_inj (hf _ hm).2 hh.2 (hf _ hm).1 hh.1 (cmpB_zero hz)
  rcases Nat.lt_or_ge k t.length with hlt | hge
  · have hd2 := ltd hlt
    have hm : t.getD k default ∈ t := mem_getD hlt
    have hbs := q54before_spec (t.getD k default) h (hf _ hm).2 hh.2
    cases hb : befB (t.getD k default) h with
    | true =>
      rw [hb] at hbs
      repeat' (first | (with_reducible refine aw_seq ?_) | ((with_reducible refine two_intro ?_ ?_) <;> intro h <;> first | contradiction | (((guard_hyp h : true = true; clear h)))) | ((with_reducible refine And.intro ?_ ?_); (focus (omega))) | (with_reducible refine aw_block ?_) | ((first | ((with_reducible refine aw_regionA T_ok ?_ ?_); kernel_rfl) | ((with_reducible refine aw_drawnA T_ok ?_ ?_ ?_ ?_); kernel_rfl; kernel_rfl; (focus (decide +kernel))) | ((with_reducible refine callK_intro (hbs) ?_ ?_ ?_); (focus (((repeat' (first | exact ta_n | refine ta_a ?_)); done))); kernel_rfl) | (with_reducible refine aw_skip ?_) | ((with_reducible refine aw_condM ?_ ?_); kernel_rfl) ); simp only [↓avP, avQ, avR, forall_const, implies_true, Nat.reduceEqDiff, Nat.reduceAdd, Nat.reduceLeDiff, reduceCtorEq, avS, handS, ty_H, ty_32, hd2]; try simp (disch := omega) only [av_w, Int.toNat_natCast]))
      refine ⟨k + 1, ⟨by omega, fun i hi => ?_⟩, by dsimp only; omega, wk_of [(0, some 0)] rfl rfl ?_ ?_⟩
      · rcases Nat.lt_succ_iff_lt_or_eq.1 hi with h' | rfl
        · exact h0 i h'
        · exact hb
      · simp only [wkA, reduceIte, Nat.reduceEqDiff]
        (repeat' (first | rfl | exact subVs_d _ _))
      · simp only [wkA, reduceIte, Nat.reduceEqDiff]
        (repeat' (first | rfl | exact subVs_d _ _))
    | false =>
      rw [hb] at hbs
      have hlb := rest fun _ => hb
      by_cases he : t.getD k default = h
      · have hde : decide (t.getD k default = h) = true := decide_eq_true he
        repeat' (first | (with_reducible refine aw_seq ?_) | ((with_reducible refine two_intro ?_ ?_) <;> intro h <;> first | contradiction | ((first | (guard_hyp h : true = true; clear h) | (guard_hyp h : false = false; clear h)))) | ((with_reducible refine And.intro ?_ ?_); (focus (first | exact eqHand | omega))) | ((first | ((with_reducible refine aw_regionA T_ok ?_ ?_); kernel_rfl) | ((with_reducible refine aw_drawnA T_ok ?_ ?_ ?_ ?_); kernel_rfl; kernel_rfl; (focus (decide +kernel))) | ((with_reducible refine callK_intro (hbs) ?_ ?_ ?_); (focus (((repeat' (first | exact ta_n | refine ta_a ?_)); done))); kernel_rfl) | (with_reducible refine aw_exit ?_) | ((with_reducible refine aw_condM ?_ ?_); kernel_rfl) | (with_reducible refine aw_ret ?_) ); simp only [↓avP, avQ, avR, forall_const, implies_true, Nat.reduceEqDiff, Nat.reduceAdd, Nat.reduceLeDiff, reduceCtorEq, avS, handS, ty_H, ty_32, hd2, hde]; try simp (disch := omega) only [Int.toNat_natCast]))
        rw [learn_known ho hf (he ▸ hm)]
        exact ⟨Sub.refl _, Sub.refl _⟩
      · have hde : decide (t.getD k default = h) = false := decide_eq_false he
        have hlm : ((t.length : Int) == 4096) = false := by simp; omega
        repeat' (first | (with_reducible refine aw_seq ?_) | ((with_reducible refine two_intro ?_ ?_) <;> intro h <;> first | contradiction | (((guard_hyp h : false = false; clear h)))) | ((with_reducible refine And.intro ?_ ?_); (focus (first | exact eqHand | omega | rfl | decide | grind))) | ((first | ((with_reducible refine aw_regionA T_ok ?_ ?_); kernel_rfl) | ((with_reducible refine aw_drawnA T_ok ?_ ?_ ?_ ?_); kernel_rfl; kernel_rfl; (focus (decide +kernel))) | ((with_reducible refine aw_drawnC T_ok ?_ ?_ ?_ ?_); kernel_rfl; kernel_rfl; (focus (decide +kernel))) | ((with_reducible refine callK_intro (hbs) ?_ ?_ ?_); (focus (((repeat' (first | exact ta_n | refine ta_a ?_)); done))); kernel_rfl) | (with_reducible refine aw_skip ?_) | (with_reducible refine aw_exit ?_) | ((with_reducible refine aw_condM ?_ ?_); kernel_rfl) | (with_reducible refine aw_ret ?_) ); simp only [↓avP, avQ, avR, forall_const, implies_true, Nat.reduceEqDiff, Nat.reduceAdd, Nat.reduceSub, Nat.reduceLeDiff, Nat.reduceLT, reduceCtorEq, ↓hwpC.eq_def, ↓hopC.eq_def, ↓apKH.eq_def, ↓apH.eq_def, rqOk, lkC, delO, takes, whoMakes, headC, tailC, isTC, Option.some.injEq, avS, handS, ↓zH_D, ty_H, ty_32, hd2, hde, hlm]; try simp (disch := omega) only [Int.toNat_natCast]))
        refine ⟨Sub.of_eq (congrArg A.one ?_), Sub.refl _⟩
        rw [ins_eq (nf fun e => he (by rw [← hlb]; exact e)), hlb]
  · obtain rfl : k = t.length := by omega
    have hd2 := ged (Nat.le_refl t.length)
    have hlb := rest fun h => absurd h (Nat.lt_irrefl _)
    have hlm : ((t.length : Int) == 4096) = false := by simp; omega
    have hbs := q54before_spec (t.getD t.length default) h (hOk_getD (fun x hx => (hf x hx).2) _) hh.2
    repeat' (first | (with_reducible refine aw_seq ?_) | ((with_reducible refine two_intro ?_ ?_) <;> intro h <;> first | contradiction | (((guard_hyp h : false = false; clear h)))) | ((with_reducible refine And.intro ?_ ?_); (focus (first | exact eqHand | omega | rfl | decide | grind))) | ((first | ((with_reducible refine aw_regionA T_ok ?_ ?_); kernel_rfl) | ((with_reducible refine aw_drawnA T_ok ?_ ?_ ?_ ?_); kernel_rfl; kernel_rfl; (focus (decide +kernel))) | ((with_reducible refine aw_drawnC T_ok ?_ ?_ ?_ ?_); kernel_rfl; kernel_rfl; (focus (decide +kernel))) | ((with_reducible refine callK_intro (hbs) ?_ ?_ ?_); (focus (((repeat' (first | exact ta_n | refine ta_a ?_)); done))); kernel_rfl) | (with_reducible refine aw_skip ?_) | (with_reducible refine aw_exit ?_) | ((with_reducible refine aw_condM ?_ ?_); kernel_rfl) | (with_reducible refine aw_ret ?_) ); simp only [↓avP, avQ, avR, forall_const, implies_true, Nat.reduceEqDiff, Nat.reduceAdd, Nat.reduceSub, Nat.reduceLeDiff, Nat.reduceLT, reduceCtorEq, ↓hwpC.eq_def, ↓hopC.eq_def, ↓apKH.eq_def, ↓apH.eq_def, rqOk, lkC, delO, takes, whoMakes, headC, tailC, isTC, Option.some.injEq, avS, handS, ↓zH_D, ty_H, ty_32, hd2, hlm]; try simp (disch := omega) only [Int.toNat_natCast]))
    refine ⟨Sub.of_eq (congrArg A.one ?_), Sub.refl _⟩
    rw [ins_eq (by unfold foundH; rw [hlb, decide_eq_false (Nat.lt_irrefl _)]; rfl), hlb]
end Go.Proofs.Ythidfoohhhkobaa

