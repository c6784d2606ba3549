import Derived.Test.YthidfoohhhkobaaH22
import Derived.Test.YthidfoohhhkobaaH23
import Derived.Test.YthidfoohhhkobaaH24
namespace Go.Proofs.Ythidfoohhhkobaa
set_option linter.unusedSimpArgs false
set_option linter.unusedVariables false
open Go.RowKit
set_option maxRecDepth 100000
set_option maxHeartbeats 4000000
theorem syn_do {n : Nat} {T : List Hd} {r0 r : RoomP} {q : Nat} {D : Nat → Nat → Prop} (hT : T.length ≤ 14) (h : SInv n T r0 r q D) (hq : q ≤ 1000) {i k : Nat} (hi : i < n) (hk : k < n) (hne : i ≠ k) :
    ∃ X, doR r (synA i k) = X ∧ Spec Try.prog 12 [aRoom r, .agg (actD ⟨2, i, k, 0, default⟩)] (.rt [aRoom X, aI 0]) ∧ X.peers = r.peers ∧ X.peers.length = n ∧ r.peers.length = n ∧ X.net.queue.length = r.net.queue.length + (r.peers.getD i []).length ∧ r.net.queue.length ≤ 1000 ∧ (r.peers.getD i []).length ≤ 14 := by
  have hn4 := h.inv.n4
  have hsm : smR T r := ⟨by have := h.que; omega, by omega⟩
  obtain ⟨s1, s2, s3⟩ := h.inv.sync hsm hi hk hne
  have k2 : Cd.i64R 2 := ⟨by decide, by decide⟩
  have dx := gdo_spec r (synA i k) (h.inv.ok (by have := h.que; omega) (by omega)) (fun _ => h.inv.few hsm.1 hsm.2) hOk_zero k2
  rw [s1] at dx
  have hp : (doR r (synA i k)).peers = r.peers := by rw [s2]
  refine ⟨_, rfl, dx, hp, by rw [hp]; exact h.inv.len, h.inv.len, ?_, by have := h.que; omega, by have := (h.inv.getD i).2.2; omega⟩
  rw [s2]
  simp [syncPk]
theorem all_know {n : Nat} {T : List Hd} {r0 r : RoomP} {q : Nat} (hS : SInv n T r0 r q (fun a b => a < n ∧ b < n)) (hO : ordH T) (hall : ∀ x ∈ T, ∃ i, i < n ∧ x ∈ r0.peers.getD i []) {d : RoomP} (hd : RInv n T d) (hk : ∀ i x, x ∈ d.peers.getD i [] ↔ Kn T r i x) {j : Nat} (hj : j < n) : d.peers.getD j [] = T := by
  obtain ⟨g1, g2, _⟩ := hd.getD j
  refine ord_ext g1 hO fun x => ⟨g2 x, fun hx => ?_⟩
  obtain ⟨i, hi, hm⟩ := hall x hx
  exact (hk j x).2 (hS.done i j ⟨hi, hj⟩ x hm)
theorem glawConverge_spec (u : Int) (l : List ActP) (o : List UInt8) (hu : 0 ≤ u ∧ u ≤ 255) (hl : l.length ≤ 140737488351232 ∧ ∀ a ∈ l, aOk a) (ho : o.length ≤ 140737488351232) :
    Spec Try.prog 5 [.one (.c (.int .u8 u)), .one (.sl 46 (actD default) (l.map actD)), .one (bsD o)] (.r1 (aB true)) := by
  have hsane := gsane_spec
  refine spec_of T_ok Try.func5 (by dsimp only [Try.f5]) rfl rfl (by simp) fun w F => ?_
  by_cases h14 : l.length > 14
  · have hd1 : decide ((l.length : Int) > 14) = true := decide_eq_true (by omega)
    repeat' (first | (with_reducible refine aw_seq ?_) | ((with_reducible refine two_intro ?_ ?_) <;> intro h <;> first | (exact Bool.noConfusion h) | ((first | (guard_hyp h : true = true; clear h) | (guard_hyp h : false = false; clear h)))) | ((first | ((with_reducible refine aw_regionA T_ok ?_ ?_); kernel_rfl) | ((with_reducible refine callI_spec (hsane) ?_ ?_ ?_ ?_); (focus (((repeat' (exact ta_n)); done))); kernel_rfl; kernel_rfl) | (with_reducible refine aw_skip ?_) | ((with_reducible refine aw_condM ?_ ?_); kernel_rfl) | (with_reducible refine aw_ret ?_) ); simp only [↓avP, avQ, avR, forall_const, implies_true, Nat.reduceEqDiff, Nat.reduceAdd, reduceCtorEq, avS, ty_22, ty_23, hd1]; try simp (disch := omega) only [av_w, av_t1, av_tp, Int.toNat_natCast]))
    all_goals exact Sub.refl _
  have hd1 : decide ((l.length : Int) > 14) = false := decide_eq_false (by omega)
  by_cases h100 : o.length > 100
  · have hd2 : decide ((o.length : Int) > 100) = true := decide_eq_true (by omega)
    repeat' (first | (with_reducible refine aw_seq ?_) | ((with_reducible refine two_intro ?_ ?_) <;> intro h <;> first | (exact Bool.noConfusion h) | ((first | (guard_hyp h : true = true; clear h) | (guard_hyp h : false = false; clear h)))) | ((first | ((with_reducible refine aw_regionA T_ok ?_ ?_); kernel_rfl) | ((with_reducible refine callI_spec (hsane) ?_ ?_ ?_ ?_); (focus (((repeat' (exact ta_n)); done))); kernel_rfl; kernel_rfl) | (with_reducible refine aw_skip ?_) | ((with_reducible refine aw_condM ?_ ?_); kernel_rfl) | (with_reducible refine aw_ret ?_) ); simp only [↓avP, avQ, avR, forall_const, implies_true, Nat.reduceEqDiff, Nat.reduceAdd, reduceCtorEq, avS, ty_22, ty_23, hd1, hd2]; try simp (disch := omega) only [av_w, av_t1, av_tp, Int.toNat_natCast]))
    all_goals exact Sub.refl _
  have hd2 : decide ((o.length : Int) > 100) = false := decide_eq_false (by omega)
  obtain ⟨m, m1, m2, m3, m4, m5⟩ := mod4 hu
  have hact := gacted_spec (1 + m) l (by omega) (by omega) (by omega) hl.2
  have hA := acts_inv (n := 1 + m) (by omega) (by omega) l (by omega) (fun a h => (hl.2 a h).1) l.length (Nat.le_refl _)
  rw [List.take_length] at hA
  generalize actsF (1 + m) l = S at *
  obtain ⟨N, hN⟩ : ∃ N : Nat, (1 + m).toNat = N := ⟨_, rfl⟩
  rw [hN] at hA
  obtain ⟨R, T⟩ := S
  have hlN : R.peers.length = N := hA.inv.len
  have hn4 : N ≤ 4 := hA.inv.n4
  have hT : T.length ≤ 14 := by have := hA.lenT; dsimp only at this; omega
  have hall : ∀ i, i ≤ N → SInv N T R (synI N i R) (200 + 56 * i) (fun a b => a < i ∧ b < N) := synI_ok hT hA.inv (by have := hA.lenQ; dsimp only at this ⊢; omega)
  have hwN : IntKind.i64.wrap ((N : Int)) = N := by rw [IntKind.wrap_i64]; omega
  obtain ⟨k1, p1, p2, p3, p4, p5⟩ := drain_end o (hall N (Nat.le_refl _)).inv ⟨by have := (hall N (Nat.le_refl _)).que; omega, by omega⟩
  have dr := gdrained_spec (synI N N R) o k1 (hall N (Nat.le_refl _)).inv ⟨by have := (hall N (Nat.le_refl _)).que; omega, by omega⟩ (by omega) p1 p2 p3 p5
  have hdl : (drainN o (synI N N R) k1).peers.length = N := (p3 k1 (Nat.le_refl _)).1.len
  have hkn : ∀ j, j < N → (drainN o (synI N N R) k1).peers.getD j [] = T := fun j hj => all_know (hall N (Nat.le_refl _)) hA.ordT hA.all (p3 k1 (Nat.le_refl _)).1 p4 hj
  generalize drainN o (synI N N R) k1 = D at *
  have hsh := q54sameHands_spec T (by omega)
  have z0 : ((0 : Int) != 0) = false := rfl
  clear hl p2 p3 p4 p5
  repeat' (first | (with_reducible refine aw_seq ?_) | (with_reducible refine aw_stop (id := 9) ?_) | ((with_reducible refine two_intro ?_ ?_) <;> intro h <;> first | (exact Bool.noConfusion h) | (((guard_hyp h : false = false; clear h)))) | ((with_reducible refine And.intro ?_ ?_); (focus (rfl))) | ((first | ((with_reducible refine aw_regionA T_ok ?_ ?_); kernel_rfl) | ((with_reducible refine callI_spec (hsane) ?_ ?_ ?_ ?_); (focus (((repeat' (exact ta_n)); done))); kernel_rfl; kernel_rfl) | ((with_reducible refine callI_spec (hact) ?_ ?_ ?_ ?_); (focus (((repeat' (first | exact ta_n | refine ta_d ?_)); done))); kernel_rfl; kernel_rfl) | (with_reducible refine aw_skip ?_) | ((with_reducible refine aw_condM ?_ ?_); kernel_rfl) ); simp only [↓avP, avQ, avR, forall_const, implies_true, Nat.reduceEqDiff, Nat.reduceAdd, Nat.reduceLeDiff, reduceCtorEq, Int.reduceEq, avS, roomD_B, ty_3, ty_5, ty_31, ty_22, ty_25, ty_23, hd1, hd2, m1, m2, m5, hlN]; try simp (disch := omega) only [av_w, av_t1, av_tp, Int.toNat_natCast]))
  refine ⟨?_⟩
  refine aw_keep [2, 6, 7, 8, 10] ?_
  simp only [keepT, List.contains_cons, List.contains_nil, Nat.reduceBEq, Bool.or_false, Bool.or_true, Bool.false_or, Bool.true_or, reduceIte, Bool.false_eq_true]
  repeat' (first | (with_reducible refine aw_block ?_) | ((((with_reducible refine aw_regionA T_ok ?_ ?_); kernel_rfl)); simp only [↓avP, avQ, avR, forall_const, implies_true, Nat.reduceEqDiff, avS]; try simp (disch := omega) only [av_w, av_t1, av_tp, Int.toNat_natCast]))
  refine aw_loopI (fun i : Nat => ⟨[(2, .d (bsD o)), (6, vB false), (7, .ptr 0 0), (8, .d (handsD T)), (10, vI N), (43, vI N), (44, vI i)], [(0, .cells 31 (dV (roomD (synI N i R))))], 1⟩) (fun i => i ≤ N) (fun i => N - i) 0 (Nat.zero_le _) (wk_of [(0, some 0)] rfl rfl ?_ ?_) ?_
  · simp only [wkA, reduceIte, Nat.reduceEqDiff]
    (repeat' (first | rfl | exact subVs_d _ _))
  · simp only [wkA, reduceIte, Nat.reduceEqDiff]
    (repeat' (first | rfl | exact subVs_d _ _))
  intro i hi
  rcases Nat.lt_or_ge i N with hlt | hge
  · have hdi := ltd hlt
    have hsy := synK_ok hT hlt (hall i hi) (by omega)
    clear dr hsh p1 hkn
    repeat' (first | (with_reducible refine aw_seq ?_) | (with_reducible refine aw_stop (id := 12) ?_) | ((with_reducible refine two_intro ?_ ?_) <;> intro h <;> first | (exact Bool.noConfusion h) | (((guard_hyp h : true = true; clear h)))) | (with_reducible refine aw_block ?_) | ((first | ((with_reducible refine aw_regionA T_ok ?_ ?_); kernel_rfl) | (with_reducible refine aw_skip ?_) | ((with_reducible refine aw_condM ?_ ?_); kernel_rfl) ); simp only [↓avP, avQ, avR, forall_const, implies_true, Nat.reduceEqDiff, hdi]; try simp (disch := omega) only [av_w, av_t1, av_tp, Int.toNat_natCast]))
    refine ⟨?_⟩
    refine aw_keep [2, 6, 7, 8, 10, 11, 43, 44] ?_
    simp only [keepT, List.contains_cons, List.contains_nil, Nat.reduceBEq, Bool.or_false, Bool.or_true, Bool.false_or, Bool.true_or, reduceIte, Bool.false_eq_true]
    repeat' (first | (with_reducible refine aw_block ?_) | ((((with_reducible refine aw_regionA T_ok ?_ ?_); kernel_rfl)); simp only [↓avP, avQ, avR, forall_const, implies_true, Nat.reduceEqDiff, avS]; try simp (disch := omega) only [av_w, av_t1, av_tp, Int.toNat_natCast]))
    refine aw_loopI (fun k : Nat => ⟨[(2, .d (bsD o)), (6, vB false), (7, .ptr 0 0), (8, .d (handsD T)), (10, vI N), (11, vI i), (43, vI N), (44, vI i), (47, vI N), (48, vI k)], [(0, .cells 31 (dV (roomD (synK i k (synI N i R)))))], 1⟩) (fun k => k ≤ N) (fun k => N - k) 0 (Nat.zero_le _) (wk_of [(0, some 0)] rfl rfl ?_ ?_) ?_
    · simp only [wkA, reduceIte, Nat.reduceEqDiff]
      (repeat' (first | rfl | exact subVs_d _ _))
    · simp only [wkA, reduceIte, Nat.reduceEqDiff]
      (repeat' (first | rfl | exact subVs_d _ _))
    intro k hk
    rcases Nat.lt_or_ge k N with hlk | hgk
    · have hdk := ltd hlk
      by_cases hik : i = k
      · have hke : ((i : Int) == (k : Int)) = true := by rw [hik]; exact beq_self_eq_true _
        have hst : synK i (k + 1) (synI N i R) = synK i k (synI N i R) := by rw [synK, if_pos hik]
        repeat' (first | (with_reducible refine aw_seq ?_) | ((with_reducible refine two_intro ?_ ?_) <;> intro h <;> first | (exact Bool.noConfusion h) | (((guard_hyp h : true = true; clear h)))) | (with_reducible refine aw_block ?_) | ((first | ((with_reducible refine aw_regionA T_ok ?_ ?_); kernel_rfl) | (with_reducible refine aw_skip ?_) | (with_reducible refine aw_exit ?_) | ((with_reducible refine aw_condM ?_ ?_); kernel_rfl) ); simp only [↓avP, avQ, avR, forall_const, implies_true, Nat.reduceEqDiff, reduceCtorEq, hdk, hke]; try simp (disch := omega) only [av_w]))
        refine ⟨k + 1, by omega, by dsimp only; omega, wk_of [(0, some 0)] rfl rfl ?_ ?_⟩
        · simp only [wkA, reduceIte, Nat.reduceEqDiff, hst]
          (repeat' (first | rfl | exact subVs_d _ _))
        · simp only [wkA, reduceIte, Nat.reduceEqDiff, hst]
          (repeat' (first | rfl | exact subVs_d _ _))
      · have hke : ((i : Int) == (k : Int)) = false := beq_eq_false_iff_ne.2 (by omega)
        obtain ⟨X, hX, dx, x1, x2, x3, x4, x5, x6⟩ := syn_do hT (hsy k hk) (by omega) hlt hlk hik
        have hst : synK i (k + 1) (synI N i R) = X := by rw [synK, if_neg hik]; exact hX
        generalize synK i k (synI N i R) = Y at *
        have hb1 : ((X.peers.length : Int) != (N : Int)) = false := bne_f (by rw [x2])
        have hgx := getD_peers Y.peers i (by omega)
        have hw := wrap_add (a := Y.net.queue.length) (b := (Y.peers.getD i []).length) (by omega) (by omega)
        have hb3 : ((X.net.queue.length : Int) != (Y.net.queue.length : Int) + ((Y.peers.getD i []).length : Int)) = false := bne_f (by rw [x4]; simp)
        have hb4 : decide ((X.net.queue.length : Int) > 2000) = false := decide_eq_false (by omega)
        repeat' (first | (with_reducible refine aw_seq ?_) | (with_reducible refine aw_stop (id := 17) ?_) | ((with_reducible refine two_intro ?_ ?_) <;> intro h <;> first | (exact Bool.noConfusion h) | ((first | (guard_hyp h : true = true; clear h) | (guard_hyp h : false = false; clear h)))) | ((with_reducible refine And.intro ?_ ?_); (focus (rfl))) | (with_reducible refine aw_block ?_) | ((first | ((with_reducible refine aw_regionA T_ok ?_ ?_); kernel_rfl) | ((with_reducible refine callI_spec (dx) ?_ ?_ ?_ ?_); (focus (((repeat' (first | exact ta_n | refine ta_a ?_)); done))); kernel_rfl; kernel_rfl) | (with_reducible refine aw_skip ?_) | ((with_reducible refine aw_condM ?_ ?_); kernel_rfl) ); simp only [↓avP, avQ, avR, forall_const, implies_true, Nat.reduceEqDiff, Nat.reduceAdd, Nat.reduceLeDiff, reduceCtorEq, ↓ac_s0, ↓ac_s1, ↓ac_s2, dA_p, dA_t, dA_a, dA_h, ↓zA_one, ↓zA_cells, roomD_B, actS, ty_A, ty_31, hdk, hke]; try simp (disch := omega) only [av_w, av_t1, av_tp, Int.toNat_natCast]))
        refine ⟨?_⟩
        refine aw_keep [2, 6, 7, 8, 10, 11, 13, 14, 43, 44, 47, 48] ?_
        simp only [keepT, List.contains_cons, List.contains_nil, Nat.reduceBEq, Bool.or_false, Bool.or_true, Bool.false_or, Bool.true_or, reduceIte, Bool.false_eq_true]
        repeat' (first | ((with_reducible refine two_intro ?_ ?_) <;> intro h <;> first | (exact Bool.noConfusion h) | (((guard_hyp h : false = false; clear h)))) | ((with_reducible refine And.intro ?_ ?_); (focus (omega))) | ((first | ((with_reducible refine aw_regionA T_ok ?_ ?_); kernel_rfl) | ((with_reducible refine aw_drawnA T_ok ?_ ?_ ?_ ?_); kernel_rfl; kernel_rfl; (focus (decide +kernel))) | (with_reducible refine aw_skip ?_) | ((with_reducible refine aw_condM ?_ ?_); kernel_rfl) ); simp only [↓avP, avQ, avR, forall_const, implies_true, Nat.reduceEqDiff, Nat.reduceAdd, Nat.reduceLeDiff, reduceCtorEq, rm_dr, roomD_B, ty_31, ty_25, ty_55, ty_32, ty_29, ty_26, z0, hb1, hgx, hw, hb3, hb4]; try simp (disch := omega) only [av_w]))
        refine ⟨k + 1, by omega, by dsimp only; omega, wk_of [(0, some 0)] rfl rfl ?_ ?_⟩
        · simp only [wkA, reduceIte, Nat.reduceEqDiff, hst]
          (repeat' (first | rfl | exact subVs_d _ _))
        · simp only [wkA, reduceIte, Nat.reduceEqDiff, hst]
          (repeat' (first | rfl | exact subVs_d _ _))
    · obtain rfl : k = N := Nat.le_antisymm hk hgk
      have hdk := ged (Nat.le_refl k)
      repeat' (first | (with_reducible refine aw_seq ?_) | ((with_reducible refine two_intro ?_ ?_) <;> intro h <;> first | (exact Bool.noConfusion h) | (((guard_hyp h : false = false; clear h)))) | ((first | ((with_reducible refine aw_regionA T_ok ?_ ?_); kernel_rfl) | (with_reducible refine aw_exit ?_) | ((with_reducible refine aw_condM ?_ ?_); kernel_rfl) ); simp only [↓avP, avQ, avR, forall_const, implies_true, Nat.reduceEqDiff, reduceCtorEq, hdk]; try simp (disch := omega) only [av_w]))
      refine ⟨i + 1, by omega, by dsimp only; omega, wk_of [(0, some 0)] rfl rfl ?_ ?_⟩
      · simp only [wkA, reduceIte, Nat.reduceEqDiff, synI]
        (repeat' (first | rfl | exact subVs_d _ _))
      · simp only [wkA, reduceIte, Nat.reduceEqDiff, synI]
        (repeat' (first | rfl | exact subVs_d _ _))
  · obtain rfl : i = N := Nat.le_antisymm hi hge
    have hdi := ged (Nat.le_refl i)
    repeat' (first | (with_reducible refine aw_seq ?_) | ((with_reducible refine two_intro ?_ ?_) <;> intro h <;> first | (exact Bool.noConfusion h) | (((guard_hyp h : false = false; clear h)))) | ((with_reducible refine And.intro ?_ ?_); (focus (rfl))) | (with_reducible refine aw_block ?_) | ((first | ((with_reducible refine aw_regionA T_ok ?_ ?_); kernel_rfl) | ((with_reducible refine callI_spec (dr) ?_ ?_ ?_ ?_); (focus (((repeat' (first | exact ta_n | refine ta_a ?_ | refine ta_d ?_)); done))); kernel_rfl; kernel_rfl) | (with_reducible refine aw_skip ?_) | (with_reducible refine aw_exit ?_) | ((with_reducible refine aw_condM ?_ ?_); kernel_rfl) ); simp only [↓avP, avQ, avR, forall_const, implies_true, Nat.reduceEqDiff, Nat.reduceAdd, Nat.reduceLeDiff, reduceCtorEq, avS, roomD_B, ty_31, ty_25, hdi]; try simp (disch := omega) only [av_w, av_t1, av_tp, Int.toNat_natCast]))
    refine aw_loopI (fun j : Nat => ⟨[(6, vB false), (8, .d (handsD T)), (109, .d (.sl 1 peer0 (D.peers.map peerD))), (110, vI D.peers.length), (111, vI j)], [], 0⟩) (fun j => j ≤ D.peers.length) (fun j => D.peers.length - j) 0 (Nat.zero_le _) (wk_of [] rfl rfl ?_ ?_) ?_
    · simp only [wkA, reduceIte, Nat.reduceEqDiff]
      (repeat' (first | rfl | exact subVs_d _ _))
    · simp only [wkA, reduceIte, Nat.reduceEqDiff]
    intro j hj
    rcases Nat.lt_or_ge j D.peers.length with hlj | hgj
    · have hdj := ltd hlj
      have hgd := getD_peers D.peers j hlj
      rw [hkn j (by omega)] at hgd
      repeat' (first | (with_reducible refine aw_seq ?_) | ((with_reducible refine two_intro ?_ ?_) <;> intro h <;> first | (exact Bool.noConfusion h) | ((first | (guard_hyp h : true = true; clear h) | (guard_hyp h : false = false; clear h)))) | ((with_reducible refine And.intro ?_ ?_); (focus (first | omega | rfl))) | (with_reducible refine aw_block ?_) | ((first | ((with_reducible refine aw_regionA T_ok ?_ ?_); kernel_rfl) | ((with_reducible refine callI_spec (hsh) ?_ ?_ ?_ ?_); (focus (((repeat' (first | exact ta_n | refine ta_d ?_)); done))); kernel_rfl; kernel_rfl) | (with_reducible refine aw_skip ?_) | ((with_reducible refine aw_condM ?_ ?_); kernel_rfl) ); simp only [↓avP, avQ, avR, forall_const, implies_true, Nat.reduceEqDiff, Nat.reduceLeDiff, reduceCtorEq, ty_25, ty_55, ty_32, hdj, hgd]; try simp (disch := omega) only [av_w]))
      refine ⟨j + 1, by omega, by dsimp only; omega, wk_of [] rfl rfl ?_ ?_⟩
      · simp only [wkA, reduceIte, Nat.reduceEqDiff]
        (repeat' (first | rfl | exact subVs_d _ _))
      · simp only [wkA, reduceIte, Nat.reduceEqDiff]
    · obtain rfl : j = D.peers.length := Nat.le_antisymm hj hgj
      have hdj := ged (Nat.le_refl D.peers.length)
      repeat' (first | (with_reducible refine aw_seq ?_) | ((with_reducible refine two_intro ?_ ?_) <;> intro h <;> first | (exact Bool.noConfusion h) | (((guard_hyp h : false = false; clear h)))) | ((first | ((with_reducible refine aw_regionA T_ok ?_ ?_); kernel_rfl) | (with_reducible refine aw_exit ?_) | ((with_reducible refine aw_condM ?_ ?_); kernel_rfl) | (with_reducible refine aw_ret ?_) ); simp only [↓avP, avQ, avR, forall_const, implies_true, Nat.reduceEqDiff, avS, hdj]; try simp (disch := omega) only [av_w, av_t1, av_tp, Int.toNat_natCast]))
      all_goals exact Sub.refl _
end Go.Proofs.Ythidfoohhhkobaa

