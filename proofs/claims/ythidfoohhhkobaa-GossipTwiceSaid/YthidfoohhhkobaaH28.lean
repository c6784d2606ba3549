import Derived.Test.YthidfoohhhkobaaH22
import Derived.Test.YthidfoohhhkobaaH23
namespace Go.Proofs.Ythidfoohhhkobaa
set_option linter.unusedSimpArgs false
set_option linter.unusedVariables false
open Go.RowKit
set_option maxRecDepth 100000
set_option maxHeartbeats 4000000
theorem tell_act {n : Nat} {T : List Hd} {r : RoomP} (h : RInv n T r) (hs : smR T r) {k : Nat} (hk : k < n) {x : Hd} (hx : fH x) :
    doE r ⟨1, k, 0, 0, x⟩ = 0 ∧ doR r ⟨1, k, 0, 0, x⟩ = ⟨setPeer r.peers k x, ⟨r.net.queue ++ tellPk r.peers.length k x, r.net.apart⟩⟩ ∧ RInv n (learnL T x) (doR r ⟨1, k, 0, 0, x⟩) ∧ x ∈ (doR r ⟨1, k, 0, 0, x⟩).peers.getD k [] ∧ (doR r ⟨1, k, 0, 0, x⟩).net.queue.length + 1 = r.net.queue.length + n := by
  have hE : doE r ⟨1, k, 0, 0, x⟩ = 0 := by
    rw [h.do hs]
    unfold actE
    have hi : inR r (k : Int) = true := by
      unfold inR
      rw [Bool.and_eq_true, decide_eq_true_eq, decide_eq_true_eq, h.len]; omega
    rw [if_pos rfl]
    simp [hi, hx.1]
  have hR : doR r ⟨1, k, 0, 0, x⟩ = ⟨setPeer r.peers k x, ⟨r.net.queue ++ tellPk r.peers.length k x, r.net.apart⟩⟩ := by
    unfold doR
    rw [if_pos hE]
    unfold actR
    rw [if_pos rfl]
  obtain ⟨_, a2, a3, _⟩ := h.act hs (a := ⟨1, k, 0, 0, x⟩) hx.2 hE
  refine ⟨hE, hR, ?_, ?_, ?_⟩
  · rw [a2]
    exact a3 _ fun y => by rw [mem_learn h.fT hx]; simp
  · rw [hR]
    show x ∈ (setPeer r.peers (k : Int) x).getD k []
    obtain ⟨_, g2, _⟩ := h.getD k
    rw [setPeer_get, if_pos ⟨by simp, by rw [h.len]; exact hk⟩, mem_learn (fun y hy => h.fT y (g2 y hy)) hx]
    exact .inr rfl
  · rw [hR]
    have := tell_len n (k : Int) (by omega) (by omega) x
    simp only [List.length_append, h.len]
    omega
theorem tell_again {n : Nat} {T : List Hd} {r : RoomP} (h : RInv n T r) {k : Nat} {x : Hd} (hm : x ∈ r.peers.getD k []) : setPeer r.peers k x = r.peers := by
  unfold setPeer
  rw [Int.toNat_natCast]
  obtain ⟨g1, g2, _⟩ := h.getD k
  rw [learn_known g1 (fun y hy => h.fT y (g2 y hy)) hm]
  rcases Nat.lt_or_ge k r.peers.length with hk | hk
  · simp [List.getD_eq_getElem?_getD, List.getElem?_eq_getElem hk]
  · rw [List.set_eq_of_length_le hk]
theorem tell2 {n : Nat} {T : List Hd} {r : RoomP} (h : RInv n T r) (hq : r.net.queue.length ≤ 196) (hT : T.length ≤ 14) {k : Nat} (hk : k < n) {x : Hd} (hx : fH x) :
    ∃ X Y : RoomP, Spec Try.prog 12 [aRoom r, .agg (actD ⟨1, k, 0, 0, x⟩)] (.rt [aRoom X, aI 0]) ∧
      Spec Try.prog 12 [aRoom X, .agg (actD ⟨1, k, 0, 0, x⟩)] (.rt [aRoom Y, aI 0]) ∧
      X.peers.length = n ∧ Y.peers = X.peers ∧ X.net.queue.length ≤ 200 ∧ X.net.queue.length + 1 = r.net.queue.length + n ∧ Y.net.queue.length + 1 = X.net.queue.length + n ∧ x ∈ X.peers.getD k [] ∧ (∀ i, (X.peers.getD i []).length ≤ 1000) := by
  have hn4 := h.n4
  have k1 : Cd.i64R 1 := ⟨by decide, by decide⟩
  obtain ⟨x0, x1, x2, x3, x4⟩ := tell_act h ⟨by omega, by omega⟩ hk hx
  have dx := gdo_spec r ⟨1, k, 0, 0, x⟩ (h.ok (by omega) (by omega)) (fun _ => h.few (by omega) (by omega)) hx.2 k1
  rw [x0] at dx
  have hLT := len_learn T x
  obtain ⟨y0, y1, y2, y3, y4⟩ := tell_act x2 ⟨by omega, by omega⟩ hk hx
  have dy := gdo_spec (doR r ⟨1, k, 0, 0, x⟩) ⟨1, k, 0, 0, x⟩ (x2.ok (by omega) (by omega)) (fun _ => x2.few (by omega) (by omega)) hx.2 k1
  rw [y0] at dy
  exact ⟨_, _, dx, dy, x2.len, by rw [y1]; exact tell_again x2 x3, by omega, x4, y4, x3, fun i => by have := (x2.getD i).2.2; omega⟩
theorem glawTwice_spec (u : Int) (l : List ActP) (p : Int) (h : Hd) (hu : 0 ≤ u ∧ u ≤ 255) (hl : l.length ≤ 140737488351232 ∧ ∀ a ∈ l, aOk a) (hp : 0 ≤ p ∧ p ≤ 255) (hh : hOk h) :
    Spec Try.prog 4 [.one (.c (.int .u8 u)), .one (.sl 46 (actD default) (l.map actD)), .one (.c (.int .u8 p)), .agg (handD h)] (.r1 (aB true)) := by
  have hsane := gsane_spec
  have hfo := q48formed_spec h
  refine spec_of T_ok Try.func4 (by dsimp only [Try.f4]) rfl rfl (by simp) fun w F => ?_
  by_cases h12 : l.length > 12
  · have hd1 : decide ((l.length : Int) > 12) = true := decide_eq_true (by omega)
    repeat' (first | (with_reducible refine aw_seq ?_) | ((with_reducible refine two_intro ?_ ?_) <;> intro h <;> first | (exact Bool.noConfusion h) | ((first | (guard_hyp h : true = true; clear h) | (guard_hyp h : false = false; clear h)))) | ((first | ((with_reducible refine aw_regionA T_ok ?_ ?_); kernel_rfl) | ((with_reducible refine callI_spec (hsane) ?_ ?_ ?_ ?_); (focus (with_unfolding_all rfl)); kernel_rfl; kernel_rfl) | ((with_reducible refine callK_intro (hfo) ?_ ?_ ?_); (focus (((repeat' (first | exact ta_n | refine ta_a ?_)); done))); kernel_rfl) | (with_reducible refine aw_skip ?_) | ((with_reducible refine aw_condM ?_ ?_); kernel_rfl) | (with_reducible refine aw_ret ?_) ); simp only [↓avP, avQ, avR, forall_const, implies_true, Nat.reduceEqDiff, Nat.reduceAdd, Nat.reduceLeDiff, reduceCtorEq, avS, handS, ty_H, ty_22, hd1]; try simp (disch := omega) only [av_w, av_t1, av_tp, Int.toNat_natCast]))
    all_goals exact Sub.refl _
  have hd1 : decide ((l.length : Int) > 12) = false := decide_eq_false (by omega)
  cases hf : formB h with
  | false =>
    rw [hf] at hfo
    repeat' (first | (with_reducible refine aw_seq ?_) | ((with_reducible refine two_intro ?_ ?_) <;> intro h <;> first | (exact Bool.noConfusion h) | ((first | (guard_hyp h : true = true; clear h) | (guard_hyp h : false = false; clear h)))) | ((first | ((with_reducible refine aw_regionA T_ok ?_ ?_); kernel_rfl) | ((with_reducible refine callI_spec (hsane) ?_ ?_ ?_ ?_); (focus (with_unfolding_all rfl)); kernel_rfl; kernel_rfl) | ((with_reducible refine callK_intro (hfo) ?_ ?_ ?_); (focus (((repeat' (first | exact ta_n | refine ta_a ?_)); done))); kernel_rfl) | (with_reducible refine aw_skip ?_) | ((with_reducible refine aw_condM ?_ ?_); kernel_rfl) | (with_reducible refine aw_ret ?_) ); simp only [↓avP, avQ, avR, forall_const, implies_true, Nat.reduceEqDiff, Nat.reduceAdd, Nat.reduceLeDiff, reduceCtorEq, avS, handS, ty_H, ty_22, hd1]; try simp (disch := omega) only [av_w, av_t1, av_tp, Int.toNat_natCast]))
    all_goals exact Sub.refl _
  | true =>
  rw [hf] at hfo
  have hfh : fH h := ⟨hf, hh⟩
  obtain ⟨m, m1, m2, m3, m4, m5⟩ := mod4 hu
  have hact := gacted_spec (1 + m) l (by omega) (by omega) (by omega) hl.2
  have hA := acts_inv (n := 1 + m) (by omega) (by omega) l (by omega) (fun a h => (hl.2 a h).1) l.length (Nat.le_refl _)
  rw [List.take_length] at hA
  generalize actsF (1 + m) l = S at *
  obtain ⟨N, hN⟩ : ∃ N : Nat, (1 + m).toNat = N := ⟨_, rfl⟩
  rw [hN] at hA
  have hlN := hA.inv.len
  have hn1 := hA.inv.n1
  have hn4 := hA.inv.n4
  obtain ⟨k, hk1, hk2⟩ : ∃ k : Nat, p.tmod (S.1.peers.length : Int) = k ∧ k < N := by
    refine ⟨p.toNat % N, ?_, Nat.mod_lt _ (by omega)⟩
    rw [hlN, show p = ((p.toNat : Nat) : Int) by omega]
    have := tmod_nat p.toNat N
    simpa using this
  have hwp : IntKind.i64.wrap p = p := by rw [IntKind.wrap_i64]; omega
  obtain ⟨X, Y, dx, dy, hXl, hyp, hXq, hq1, hq2, hkn, hX1⟩ := tell2 hA.inv (by have := hA.lenQ; omega) (by have := hA.lenT; omega) hk2 hfh
  have hb1 : ((X.peers.length : Int) != (S.1.peers.length : Int)) = false := bne_f (by rw [hXl, hlN])
  have hb2 : ((Y.peers.length : Int) != (X.peers.length : Int)) = false := bne_f (by rw [hyp])
  have hgx := getD_peers X.peers k (by omega)
  have hhas := ghas_spec (X.peers.getD k []) h (Nat.le_trans (hX1 k) (by decide))
  rw [decide_eq_true hkn] at hhas
  have hb3 : ((Y.net.queue.length : Int) != (X.net.queue.length : Int) + (X.peers.length : Int) - 1) = false := bne_f (by omega)
  have hw3 : IntKind.i64.wrap (IntKind.i64.wrap ((X.net.queue.length : Int) + (X.peers.length : Int)) - 1) = (X.net.queue.length : Int) + (X.peers.length : Int) - 1 := wrap_ab (by omega) (by omega)
  have z0 : ((0 : Int) != 0) = false := rfl
  clear hp hl hA hh hfh
  repeat' (first | (with_reducible refine aw_seq ?_) | (with_reducible refine aw_stop (id := 5) ?_) | ((with_reducible refine two_intro ?_ ?_) <;> intro h <;> first | (exact Bool.noConfusion h) | (((guard_hyp h : false = false; clear h)))) | ((first | ((with_reducible refine aw_regionA T_ok ?_ ?_); kernel_rfl) | ((with_reducible refine callI_spec (hsane) ?_ ?_ ?_ ?_); (focus (with_unfolding_all rfl)); kernel_rfl; kernel_rfl) | ((with_reducible refine callK_intro (hfo) ?_ ?_ ?_); (focus (((repeat' (first | exact ta_n | refine ta_a ?_)); done))); kernel_rfl) | (with_reducible refine aw_skip ?_) | ((with_reducible refine aw_condM ?_ ?_); kernel_rfl) ); simp only [↓avP, avQ, avR, forall_const, implies_true, Nat.reduceEqDiff, Nat.reduceAdd, Nat.reduceLeDiff, reduceCtorEq, avS, handS, ty_H, ty_22, hd1]; try simp (disch := omega) only [av_w, av_t1, av_tp, Int.toNat_natCast]))
  refine ⟨?_⟩
  refine aw_keep [0, 1, 2, 7, 8] ?_
  simp only [keepT, List.contains_cons, List.contains_nil, Nat.reduceBEq, Bool.or_false, Bool.or_true, Bool.false_or, Bool.true_or, reduceIte, Bool.false_eq_true]
  repeat' (first | (with_reducible refine aw_seq ?_) | (with_reducible refine aw_stop (id := 8) ?_) | ((with_reducible refine two_intro ?_ ?_) <;> intro h <;> first | (exact Bool.noConfusion h) | (((guard_hyp h : false = false; clear h)))) | ((with_reducible refine And.intro ?_ ?_); (focus (rfl))) | ((first | ((with_reducible refine aw_regionA T_ok ?_ ?_); kernel_rfl) | ((with_reducible refine callI_spec (hact) ?_ ?_ ?_ ?_); (focus (with_unfolding_all rfl)); kernel_rfl; kernel_rfl) | (with_reducible refine aw_skip ?_) | ((with_reducible refine aw_condM ?_ ?_); kernel_rfl) ); simp only [↓avP, avQ, avR, forall_const, implies_true, Nat.reduceEqDiff, Nat.reduceAdd, Nat.reduceLeDiff, reduceCtorEq, Int.reduceEq, avS, roomD_B, ty_3, ty_5, ty_31, m1, m2, m5]; try simp (disch := omega) only [av_w, av_t1, av_tp, Int.toNat_natCast]))
  refine ⟨?_⟩
  refine aw_keep [2, 7, 8, 9] ?_
  simp only [keepT, List.contains_cons, List.contains_nil, Nat.reduceBEq, Bool.or_false, Bool.or_true, Bool.false_or, Bool.true_or, reduceIte, Bool.false_eq_true]
  repeat' (first | (with_reducible refine aw_seq ?_) | (with_reducible refine aw_stop (id := 9) ?_) | ((with_reducible refine And.intro ?_ ?_); (focus (omega))) | ((((with_reducible refine aw_regionA T_ok ?_ ?_); kernel_rfl)); simp only [↓avP, avQ, avR, forall_const, implies_true, Nat.reduceEqDiff, reduceCtorEq, roomD_B, ty_3, ty_5, ty_31, ty_25, hwp, hk1]; try simp (disch := omega) only [av_w, av_t1, av_tp, Int.toNat_natCast]))
  refine ⟨?_⟩
  refine aw_keep [7, 8, 9, 12] ?_
  simp only [keepT, List.contains_cons, List.contains_nil, Nat.reduceBEq, Bool.or_false, Bool.or_true, Bool.false_or, Bool.true_or, reduceIte, Bool.false_eq_true]
  repeat' (first | (with_reducible refine aw_seq ?_) | (with_reducible refine aw_stop (id := 10) ?_) | ((with_reducible refine And.intro ?_ ?_); (focus (rfl))) | ((first | ((with_reducible refine aw_regionA T_ok ?_ ?_); kernel_rfl) | ((with_reducible refine callI_spec (dx) ?_ ?_ ?_ ?_); (focus (((repeat' (first | exact ta_n | refine ta_a ?_)); done))); kernel_rfl; kernel_rfl)); simp only [↓avP, avQ, avR, forall_const, implies_true, Nat.reduceEqDiff, Nat.reduceAdd, Nat.reduceLeDiff, reduceCtorEq, avS, ↓ac_s0, ↓ac_s1, ↓ac_s4, dA_p, dA_t, dA_a, dA_h, ↓zA_one, ↓zA_cells, roomD_B, actS, handS, ty_H, ty_A, ty_31]; try simp (disch := omega) only [av_w, av_t1, av_tp, Int.toNat_natCast]))
  refine ⟨?_⟩
  refine aw_keep [7, 8, 9, 12, 13, 14] ?_
  simp only [keepT, List.contains_cons, List.contains_nil, Nat.reduceBEq, Bool.or_false, Bool.or_true, Bool.false_or, Bool.true_or, reduceIte, Bool.false_eq_true]
  repeat' (first | (with_reducible refine aw_seq ?_) | (with_reducible refine aw_stop (id := 12) ?_) | ((with_reducible refine two_intro ?_ ?_) <;> intro h <;> first | (exact Bool.noConfusion h) | (((guard_hyp h : false = false; clear h)))) | ((with_reducible refine And.intro ?_ ?_); (focus (omega))) | ((first | ((with_reducible refine aw_drawnA T_ok ?_ ?_ ?_ ?_); kernel_rfl; kernel_rfl; (focus (decide +kernel))) | ((with_reducible refine callK_intro (hhas) ?_ ?_ ?_); (focus (((repeat' (first | exact ta_n | refine ta_a ?_ | refine ta_d ?_)); done))); kernel_rfl) | (with_reducible refine aw_skip ?_) | ((with_reducible refine aw_condM ?_ ?_); kernel_rfl) ); simp only [↓avP, avQ, avR, forall_const, implies_true, Nat.reduceEqDiff, Nat.reduceAdd, Nat.reduceLeDiff, reduceCtorEq, avS, roomD_B, handS, ty_H, ty_31, ty_25, ty_55, ty_32, z0, hb1, hgx]; try simp (disch := omega) only [Int.toNat_natCast]))
  refine ⟨?_⟩
  refine aw_keep [7, 8, 9, 12, 13] ?_
  simp only [keepT, List.contains_cons, List.contains_nil, Nat.reduceBEq, Bool.or_false, Bool.or_true, Bool.false_or, Bool.true_or, reduceIte, Bool.false_eq_true]
  repeat' (first | (with_reducible refine aw_seq ?_) | (with_reducible refine aw_stop (id := 13) ?_) | ((with_reducible refine And.intro ?_ ?_); (focus (rfl))) | ((first | ((with_reducible refine aw_regionA T_ok ?_ ?_); kernel_rfl) | ((with_reducible refine callI_spec (dy) ?_ ?_ ?_ ?_); (focus (((repeat' (first | exact ta_n | refine ta_a ?_)); done))); kernel_rfl; kernel_rfl)); simp only [↓avP, avQ, avR, forall_const, implies_true, Nat.reduceEqDiff, Nat.reduceAdd, Nat.reduceLeDiff, reduceCtorEq, avS, ↓ac_s0, ↓ac_s1, ↓ac_s4, dA_p, dA_t, dA_a, dA_h, ↓zA_one, ↓zA_cells, roomD_B, actS, handS, ty_H, ty_A, ty_31]; try simp (disch := omega) only [av_w, av_t1, av_tp, Int.toNat_natCast]))
  refine ⟨?_⟩
  refine aw_keep [8, 9, 12, 13, 15, 16] ?_
  simp only [keepT, List.contains_cons, List.contains_nil, Nat.reduceBEq, Bool.or_false, Bool.or_true, Bool.false_or, Bool.true_or, reduceIte, Bool.false_eq_true]
  repeat' (first | (with_reducible refine aw_seq ?_) | (with_reducible refine aw_stop (id := 15) ?_) | ((with_reducible refine two_intro ?_ ?_) <;> intro h <;> first | (exact Bool.noConfusion h) | (((guard_hyp h : false = false; clear h)))) | ((first | ((with_reducible refine aw_regionA T_ok ?_ ?_); kernel_rfl) | (with_reducible refine aw_skip ?_) | ((with_reducible refine aw_condM ?_ ?_); kernel_rfl) ); simp only [↓avP, avQ, avR, forall_const, implies_true, Nat.reduceEqDiff, reduceCtorEq, avS, roomD_B, ty_31, ty_25, ty_29, ty_26, z0, hb2, hb3, hw3]; try simp (disch := omega) only [av_w]))
  refine ⟨?_⟩
  refine aw_keep [8, 13, 15] ?_
  simp only [keepT, List.contains_cons, List.contains_nil, Nat.reduceBEq, Bool.or_false, Bool.or_true, Bool.false_or, Bool.true_or, reduceIte, Bool.false_eq_true]
  repeat' (first | (with_reducible refine aw_block ?_) | ((((with_reducible refine aw_regionA T_ok ?_ ?_); kernel_rfl)); simp only [↓avP, avQ, avR, forall_const, implies_true, Nat.reduceEqDiff, reduceCtorEq, avS, roomD_B, ty_31, ty_25]; try simp (disch := omega) only [av_w, av_t1, av_tp, Int.toNat_natCast]))
  refine aw_loopI (fun k : Nat => ⟨[(8, vB false), (13, .ptr 0 0), (15, .ptr 1 0), (112, .d (.sl 1 peer0 (Y.peers.map peerD))), (113, vI Y.peers.length), (114, vI k)], [(1, .cells 31 (dV (roomD Y))), (0, .cells 31 (dV (roomD X)))], 2⟩) (fun k => k ≤ Y.peers.length) (fun k => Y.peers.length - k) 0 (Nat.zero_le _) (wk_of [(0, some 2), (1, some 25)] rfl rfl ?_ ?_) ?_
  · simp only [wkA, reduceIte, Nat.reduceEqDiff]
    (repeat' (first | rfl | exact subVs_d _ _ | refine And.intro ?_ ?_))
  · simp only [wkA, reduceIte, Nat.reduceEqDiff]
    (repeat' (first | rfl | exact subVs_d _ _ | refine And.intro ?_ ?_))
  intro j hj
  rcases Nat.lt_or_ge j Y.peers.length with hlt | hge
  · have hd2 := ltd hlt
    have hgy := getD_peers Y.peers j hlt
    have hgz : (X.peers.map peerD).getD j peer0 = [.sl 42 (handD default) ((Y.peers.getD j []).map handD)] := by rw [hyp] at hgy; rw [hyp]; exact hgy
    have hlx : j < X.peers.length := by rw [← hyp]; exact hlt
    have hsh := q54sameHands_spec (Y.peers.getD j []) (by rw [hyp]; exact Nat.le_trans (hX1 j) (by decide))
    repeat' (first | (with_reducible refine aw_seq ?_) | ((with_reducible refine two_intro ?_ ?_) <;> intro h <;> first | (exact Bool.noConfusion h) | ((first | (guard_hyp h : true = true; clear h) | (guard_hyp h : false = false; clear h)))) | ((with_reducible refine And.intro ?_ ?_); (focus (omega))) | (with_reducible refine aw_block ?_) | ((first | ((with_reducible refine aw_regionA T_ok ?_ ?_); kernel_rfl) | ((with_reducible refine aw_drawnA T_ok ?_ ?_ ?_ ?_); kernel_rfl; kernel_rfl; (focus (decide +kernel))) | ((with_reducible refine callK_intro (hsh) ?_ ?_ ?_); (focus (with_unfolding_all rfl)); kernel_rfl) | (with_reducible refine aw_skip ?_) | ((with_reducible refine aw_condM ?_ ?_); kernel_rfl) ); simp only [↓avP, avQ, avR, forall_const, implies_true, Nat.reduceEqDiff, Nat.reduceAdd, reduceCtorEq, roomD_B, ty_31, ty_25, ty_55, ty_32, hd2, hgy, hgz]; try simp (disch := omega) only [av_w, Int.toNat_natCast]))
    refine ⟨j + 1, by omega, by dsimp only; omega, wk_of [(0, some 0), (1, some 1)] rfl rfl ?_ ?_⟩
    · simp only [wkA, reduceIte, Nat.reduceEqDiff]
      (repeat' (first | rfl | exact subVs_d _ _ | refine And.intro ?_ ?_))
    · simp only [wkA, reduceIte, Nat.reduceEqDiff]
      (repeat' (first | rfl | exact subVs_d _ _ | refine And.intro ?_ ?_))
  · have : j = Y.peers.length := Nat.le_antisymm hj hge
    subst this
    have hd2 := ged (Nat.le_refl Y.peers.length)
    repeat' (first | (with_reducible refine aw_seq ?_) | ((with_reducible refine two_intro ?_ ?_) <;> intro h <;> first | (exact Bool.noConfusion h) | (((guard_hyp h : false = false; clear h)))) | ((first | ((with_reducible refine aw_regionA T_ok ?_ ?_); kernel_rfl) | (with_reducible refine aw_exit ?_) | ((with_reducible refine aw_condM ?_ ?_); kernel_rfl) | (with_reducible refine aw_ret ?_) ); simp only [↓avP, avQ, avR, forall_const, implies_true, Nat.reduceEqDiff, avS, hd2]; try simp (disch := omega) only [av_w, av_t1, av_tp, Int.toNat_natCast]))
    all_goals exact Sub.refl _
end Go.Proofs.Ythidfoohhhkobaa

