import Derived.Test.YthidfoohhhkobaaH20
namespace Go.Proofs.Ythidfoohhhkobaa
set_option linter.unusedSimpArgs false
set_option linter.unusedVariables false
open Go.RowKit
set_option maxRecDepth 100000
set_option maxHeartbeats 4000000
theorem gdrained_spec {n : Nat} {T : List Hd} (r : RoomP) (o : List UInt8) (k : Nat) (hr : RInv n T r) (hs : r.net.queue.length ≤ 2900 ∧ T.length ≤ 1000) (ho : o.length ≤ 100)
    (hk0 : (drainN o r k).net.queue = []) (hkj : ∀ j, j < k → (drainN o r j).net.queue ≠ []) (hinv : ∀ j, j ≤ k → RInv n T (drainN o r j) ∧ (drainN o r j).net.queue.length ≤ r.net.queue.length) (hkm : k ≤ o.length + r.net.queue.length) :
    Spec Try.prog 9 [aRoom r, .one (bsD o)] (.rt [aRoom (drainN o r k), aB true]) := by
  have hn4 := hr.n4
  have hpl := hr.len
  refine spec_of T_ok Try.func9 (by dsimp only [Try.f9]) rfl rfl (by simp) fun w F => ?_
  repeat' (first | (with_reducible refine aw_seq ?_) | ((with_reducible refine And.intro ?_ ?_); (focus (rfl))) | (with_reducible refine aw_block ?_) | ((((with_reducible refine aw_regionA T_ok ?_ ?_); kernel_rfl)); simp only [↓avP, avQ, avR, forall_const, implies_true, Nat.reduceEqDiff, Nat.reduceAdd, reduceCtorEq, avS, roomD_B, ty_31, ty_25]; try simp (disch := omega) only [av_w, av_t1, av_tp, Int.toNat_natCast]))
  refine aw_loopI (fun i : Nat => ⟨[(1, .d (bsD o)), (2, .ptr 0 0), (4, .ptr 1 0), (6, vI n), (7, vI i)], [(1, .cells 31 [.d (.c (.slice none 0 0)), .d (.c (.slice none 0 0)), .d (.c (.slice none 0 0))]), (0, .cells 31 (dV (roomD (drainN o r i))))], 2⟩) (fun i => i ≤ k) (fun i => k - i) 0 (Nat.zero_le _) (wk_of [(0, some 0), (1, some 1)] rfl rfl ?_ ?_) ?_
  · simp only [wkA, reduceIte, Nat.reduceEqDiff, hpl]
    (repeat' (first | rfl | exact subVs_d _ _))
  · simp only [wkA, reduceIte, Nat.reduceEqDiff]
    (repeat' (first | rfl | exact subVs_d _ _))
  intro i hi
  obtain ⟨hR, hRq⟩ := hinv i hi
  rcases Nat.lt_or_ge i k with hlt | hge
  · have hne := hkj i hlt
    obtain ⟨hR1, hRq1⟩ := hinv (i + 1) (by omega)
    obtain ⟨d0, d1, d2, d3⟩ := drainS_ok hR ⟨by omega, hs.2⟩ hne o i
    obtain ⟨e1, e2, e3, e4⟩ := repS_ok hR ⟨by omega, hs.2⟩ hne o i
    have hS : drainN o r (i + 1) = drainS o i (drainN o r i) := rfl
    generalize drainN o r i = R at *
    have hl0 : 0 < R.net.queue.length := List.length_pos_iff.2 hne
    have hq0 : decide ((R.net.queue.length : Int) > 0) = true := decide_eq_true (by omega)
    have zi : Cd.i64R 5 := ⟨by decide, by decide⟩
    have z3 : Cd.i64R 3 := ⟨by decide, by decide⟩
    have hdr := gdo_spec R (repA ((atO o i % R.net.queue.length : Nat) : Int)) (hR.ok (by omega) (by have := hs.2; omega)) (fun _ => hR.few (by omega) hs.2) hOk_dflt zi
    have hdd := gdo_spec (repS o i R) (delA ((atO o i % (repS o i R).net.queue.length : Nat) : Int)) (e1.ok (by rw [e2]; split <;> omega) (by have := hs.2; omega)) (fun _ => e1.few (by rw [e2]; split <;> omega) hs.2) hOk_dflt z3
    rw [d0] at hdd
    have hlen1 : (((repS o i R).peers.length : Int) != (n : Int)) = false := by have := e1.len; simp; omega
    have hlen2 : (((drainS o i R).peers.length : Int) != (n : Int)) = false := by have := d1.len; simp; omega
    have hlq2 : (((drainS o i R).net.queue.length : Int) != ((repS o i R).net.queue.length : Int) - 1) = false := by simp; omega
    rw [show doR (repS o i R) (delA ((atO o i % (repS o i R).net.queue.length : Nat) : Int)) = drainS o i R from rfl] at hdd
    by_cases hio : i < o.length
    · have hd : decide ((i : Int) < (o.length : Int)) = true := decide_eq_true (by omega)
      have hat : atO o i = (o.getD i 0).toNat := by unfold atO; rw [if_pos hio]
      cases hrp : repO o i with
      | true =>
        have hRS : repS o i R = doR R (repA ((atO o i % R.net.queue.length : Nat) : Int)) := by unfold repS; rw [if_pos hrp]
        rw [e4 hrp, ← hRS] at hdr
        generalize repS o i R = R1 at *
        generalize drainS o i R = R2 at *
        have hlt1 : ((o.getD i 0).toNat : Int).tmod (R.net.queue.length : Int) = ((atO o i % R.net.queue.length : Nat) : Int) := by rw [hat]; exact tmod_nat _ _
        have hlt2 : ((o.getD i 0).toNat : Int).tmod (R1.net.queue.length : Int) = ((atO o i % R1.net.queue.length : Nat) : Int) := by rw [hat]; exact tmod_nat _ _
        have hw1 : IntKind.i64.wrap ((R1.net.queue.length : Int) - 1) = (R1.net.queue.length : Int) - 1 := by
          have h9 := e2
          simp only [hrp, if_true] at h9
          rw [IntKind.wrap_i64]; omega
        have h200 : decide (((o.getD i 0).toNat : Int) ≥ 200) = true := by unfold repO at hrp; rw [Bool.and_eq_true] at hrp; exact decide_eq_true (by have := of_decide_eq_true hrp.2; omega)
        have hlq1 : ((R1.net.queue.length : Int) != (R.net.queue.length : Int) + 1) = false := by simp only [hrp, if_true] at e2; simp; omega
        repeat' (first | (with_reducible refine aw_seq ?_) | ((with_reducible refine two_intro ?_ ?_) <;> intro h <;> first | (exact Bool.noConfusion h) | ((first | (guard_hyp h : true = true; clear h) | (revert h; intro _)))) | ((with_reducible refine And.intro ?_ ?_); (focus (first | omega | rfl))) | (with_reducible refine aw_block ?_) | ((first | ((with_reducible refine aw_regionA T_ok ?_ ?_); kernel_rfl) | ((with_reducible refine aw_drawnEA (id := 9) [(13, 12)] [] T_ok ?_ ?_ ?_ ?_ ?_); kernel_rfl; kernel_rfl; (focus (decide +kernel)); kernel_rfl) | ((with_reducible refine aw_drawnEA (id := 14) [(10, 9)] [] T_ok ?_ ?_ ?_ ?_ ?_); kernel_rfl; kernel_rfl; (focus (decide +kernel)); kernel_rfl) | ((with_reducible refine callK_intro (hdr) ?_ ?_ ?_); (focus (with_unfolding_all rfl)); kernel_rfl) | ((with_reducible refine callK_intro (hdd) ?_ ?_ ?_); (focus (with_unfolding_all rfl)); kernel_rfl) | (with_reducible refine fin2_intro ?_) | (with_reducible refine aw_skip ?_) | ((with_reducible refine aw_condM ?_ ?_); kernel_rfl) ); simp only [↓avP, avQ, avR, forall_const, implies_true, Nat.reduceEqDiff, Nat.reduceAdd, Nat.reduceLeDiff, reduceCtorEq, ↓earlyL.eq_def, rm_dr, by_h, ↓ac_s0, ↓ac_s3, dA_p, dA_t, dA_a, dA_h, roomD_B, actS, ↓zA_one, ↓zA_cells, ty_A, ty_3, ty_5, ty_31, ty_25, ty_29, ty_26, ty_23, hq0, hd, wrap_u8, hlt1, hlt2, h200, hlen1, hlen2, hlq1, hlq2, hw1]; try simp (disch := omega) only [av_w]))
        refine ⟨i + 1, by omega, by dsimp only; omega, wk_of [(0, some 0), (1, some 1)] rfl rfl ?_ ?_⟩
        · simp only [wkA, reduceIte, Nat.reduceEqDiff]
          (repeat' (first | rfl | exact subVs_d _ _))
        · simp only [wkA, reduceIte, Nat.reduceEqDiff, hS]
          (repeat' (first | rfl | exact subVs_d _ _))
      | false =>
        have hRS : repS o i R = R := by unfold repS; rw [if_neg (by rw [hrp]; simp)]
        rw [hRS] at d2 hdd hlq2 hlen1
        generalize drainS o i R = R2 at *
        have hlt2 : ((o.getD i 0).toNat : Int).tmod (R.net.queue.length : Int) = ((atO o i % R.net.queue.length : Nat) : Int) := by rw [hat]; exact tmod_nat _ _
        have hw1 : IntKind.i64.wrap ((R.net.queue.length : Int) - 1) = (R.net.queue.length : Int) - 1 := by rw [IntKind.wrap_i64]; omega
        have h200 : decide (((o.getD i 0).toNat : Int) ≥ 200) = false := by
          unfold repO at hrp
          rw [decide_eq_true hio, Bool.true_and] at hrp
          exact decide_eq_false (by have := of_decide_eq_false hrp; omega)
        repeat' (first | (with_reducible refine aw_seq ?_) | ((with_reducible refine two_intro ?_ ?_) <;> intro h <;> first | (exact Bool.noConfusion h) | ((first | (guard_hyp h : true = true; clear h) | (guard_hyp h : false = false; clear h) | (revert h; intro _)))) | ((with_reducible refine And.intro ?_ ?_); (focus (first | omega | rfl))) | (with_reducible refine aw_block ?_) | ((first | ((with_reducible refine aw_regionA T_ok ?_ ?_); kernel_rfl) | ((with_reducible refine aw_drawnEA (id := 14) [(10, 9)] [] T_ok ?_ ?_ ?_ ?_ ?_); kernel_rfl; kernel_rfl; (focus (decide +kernel)); kernel_rfl) | ((with_reducible refine callK_intro (hdd) ?_ ?_ ?_); (focus (with_unfolding_all rfl)); kernel_rfl) | (with_reducible refine fin2_intro ?_) | (with_reducible refine aw_skip ?_) | ((with_reducible refine aw_condM ?_ ?_); kernel_rfl) ); simp only [↓avP, avQ, avR, forall_const, implies_true, Nat.reduceEqDiff, Nat.reduceAdd, Nat.reduceLeDiff, reduceCtorEq, ↓earlyL.eq_def, rm_dr, by_h, ↓ac_s0, ↓ac_s3, dA_p, dA_t, dA_a, dA_h, roomD_B, actS, ↓zA_one, ↓zA_cells, ty_A, ty_3, ty_5, ty_31, ty_25, ty_29, ty_26, ty_23, hq0, hd, wrap_u8, hlt2, h200, hlen2, hlq2, hw1]; try simp (disch := omega) only [av_w]))
        refine ⟨i + 1, by omega, by dsimp only; omega, wk_of [(0, some 0), (1, some 1)] rfl rfl ?_ ?_⟩
        · simp only [wkA, reduceIte, Nat.reduceEqDiff]
          (repeat' (first | rfl | exact subVs_d _ _))
        · simp only [wkA, reduceIte, Nat.reduceEqDiff, hS]
          (repeat' (first | rfl | exact subVs_d _ _))
    · have hd : decide ((i : Int) < (o.length : Int)) = false := decide_eq_false (by omega)
      have hat : atO o i = 0 := by unfold atO; rw [if_neg hio]
      have hrp : repO o i = false := by unfold repO; rw [decide_eq_false hio, Bool.false_and]
      have hRS : repS o i R = R := by unfold repS; rw [if_neg (by rw [hrp]; simp)]
      rw [hRS] at d2 hdd hlq2 hlen1
      generalize drainS o i R = R2 at *
      have hlt2 : Int.tmod 0 (R.net.queue.length : Int) = ((atO o i % R.net.queue.length : Nat) : Int) := by rw [hat]; simp
      have hw1 : IntKind.i64.wrap ((R.net.queue.length : Int) - 1) = (R.net.queue.length : Int) - 1 := by rw [IntKind.wrap_i64]; omega
      repeat' (first | (with_reducible refine aw_seq ?_) | ((with_reducible refine two_intro ?_ ?_) <;> intro h <;> first | (exact Bool.noConfusion h) | ((first | (guard_hyp h : true = true; clear h) | (guard_hyp h : false = false; clear h) | (revert h; intro _)))) | ((with_reducible refine And.intro ?_ ?_); (focus (first | omega | rfl | grind))) | (with_reducible refine aw_block ?_) | ((first | ((with_reducible refine aw_regionA T_ok ?_ ?_); kernel_rfl) | ((with_reducible refine aw_drawnEA (id := 14) [(10, 9)] [] T_ok ?_ ?_ ?_ ?_ ?_); kernel_rfl; kernel_rfl; (focus (decide +kernel)); kernel_rfl) | ((with_reducible refine callK_intro (hdd) ?_ ?_ ?_); (focus (with_unfolding_all rfl)); kernel_rfl) | (with_reducible refine fin2_intro ?_) | (with_reducible refine aw_skip ?_) | ((with_reducible refine aw_condM ?_ ?_); kernel_rfl) ); simp only [↓avP, avQ, avR, forall_const, implies_true, Nat.reduceEqDiff, Nat.reduceAdd, Nat.reduceLeDiff, reduceCtorEq, ↓earlyL.eq_def, rm_dr, by_h, ↓ac_s0, ↓ac_s3, dA_p, dA_t, dA_a, dA_h, roomD_B, actS, ↓zA_one, ↓zA_cells, ty_A, ty_5, ty_31, ty_25, ty_29, ty_26, ty_23, hq0, hd, hlt2, hlen2, hlq2, hw1]; try simp (disch := omega) only [av_w]))
      refine ⟨i + 1, by omega, by dsimp only; omega, wk_of [(0, some 0), (1, some 1)] rfl rfl ?_ ?_⟩
      · simp only [wkA, reduceIte, Nat.reduceEqDiff]
        (repeat' (first | rfl | exact subVs_d _ _))
      · simp only [wkA, reduceIte, Nat.reduceEqDiff, hS]
        (repeat' (first | rfl | exact subVs_d _ _))
  · obtain rfl : i = k := by omega
    have hq0 : decide (((drainN o r i).net.queue.length : Int) > 0) = false := by rw [hk0]; rfl
    repeat' (first | (with_reducible refine aw_seq ?_) | ((with_reducible refine two_intro ?_ ?_) <;> intro h <;> first | (exact Bool.noConfusion h) | (((guard_hyp h : false = false; clear h)))) | ((first | ((with_reducible refine aw_regionA T_ok ?_ ?_); kernel_rfl) | (with_reducible refine aw_exit ?_) | ((with_reducible refine aw_condM ?_ ?_); kernel_rfl) | (with_reducible refine aw_ret ?_) ); simp only [↓avP, avQ, avR, forall_const, implies_true, Nat.reduceEqDiff, Nat.reduceAdd, Nat.reduceLeDiff, reduceCtorEq, avS, roomD_B, ty_31, ty_29, ty_26, hq0]; try simp (disch := omega) only [av_w, av_t1, av_tp, Int.toNat_natCast]))
    exact ⟨Sub.refl _, Sub.refl _⟩
end Go.Proofs.Ythidfoohhhkobaa

