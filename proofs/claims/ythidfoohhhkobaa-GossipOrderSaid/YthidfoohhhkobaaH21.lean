import Derived.Test.YthidfoohhhkobaaH19
import Derived.Test.YthidfoohhhkobaaH20
namespace Go.Proofs.Ythidfoohhhkobaa
set_option linter.unusedSimpArgs false
set_option linter.unusedVariables false
open Go.RowKit
set_option maxRecDepth 100000
set_option maxHeartbeats 4000000
theorem getD_acts (l : List ActP) (k : Nat) : (l.map actD).getD k (actD default) = actD (l.getD k default) := by
  simp [List.getD_eq_getElem?_getD, List.getElem?_map]
theorem rm_dr (r : RoomP) : List.drop 3 (dV (roomD r)) = [] := rfl
def aOk (a : ActP) : Prop := hOk a.hand ∧ Cd.i64R a.kind
theorem gacted_spec (n : Int) (l : List ActP) (h1 : 1 ≤ n) (h4 : n ≤ 4) (hl : l.length ≤ 14) (ha : ∀ a ∈ l, aOk a) : Spec Try.prog 8 [aI n, .one (.sl 46 (actD default) (l.map actD))] (.rt [aRoom (actsF n l).1, .one (handsD (actsF n l).2), aB true]) := by
  have hall := acts_inv h1 h4 l hl (fun a h => (ha a h).1)
  have hnew := gnew_spec n
  have hne : newE n = 0 := by unfold newE; rw [if_neg (by omega)]
  rw [hne] at hnew
  have hz : AInv n.toNat 0 (newR n, []) := AInv.zero h1 h4
  have hpl : ((newR n).peers.length : Int) = n := by have := hz.inv.len; dsimp only at this; omega
  refine spec_of T_ok Try.func8 (by dsimp only [Try.f8]) rfl rfl (by simp) fun w F => ?_
  have hpb : ((((newR n).peers.length : Nat) : Int) != n) = false := by simpa using hpl
  repeat' (first | (with_reducible refine aw_seq ?_) | ((with_reducible refine two_intro ?_ ?_) <;> intro h <;> first | contradiction | (((revert h; intro _)))) | ((with_reducible refine And.intro ?_ ?_); (focus (rfl))) | (with_reducible refine aw_block ?_) | ((first | ((with_reducible refine aw_regionA T_ok ?_ ?_); kernel_rfl) | ((with_reducible refine callI_spec (hnew) ?_ ?_ ?_ ?_); (focus (with_unfolding_all rfl)); kernel_rfl; kernel_rfl) | (with_reducible refine aw_skip ?_) | ((with_reducible refine aw_condM ?_ ?_); kernel_rfl) ); simp only [↓avP, avQ, avR, forall_const, implies_true, Nat.reduceEqDiff, Nat.reduceAdd, Nat.reduceLeDiff, reduceCtorEq, avS, roomD_B, ty_31, ty_22, ty_25, hpb]; try simp (disch := omega) only [av_w, av_t1, av_tp, Int.toNat_natCast]))
  refine aw_loopI (fun k : Nat => ⟨[(0, vI n), (4, .ptr 0 0), (5, .d (handsD (actsF n (l.take k)).2)), (27, .d (.sl 46 (actD default) (l.map actD))), (28, vI l.length), (29, vI k)], [(0, .cells 31 (dV (roomD (actsF n (l.take k)).1)))], 1⟩) (fun k => k ≤ l.length) (fun k => l.length - k) 0 (Nat.zero_le _) (wk_of [(0, some 0)] rfl rfl ?_ ?_) ?_
  · simp only [wkA, reduceIte, Nat.reduceEqDiff]
    simp only [List.take_zero, actsF, List.foldl_nil]
    (repeat' (first | rfl | exact subVs_d _ _ | refine And.intro ?_ ?_))
  · simp only [wkA, reduceIte, Nat.reduceEqDiff]
    simp only [List.take_zero, actsF, List.foldl_nil]
    (repeat' (first | rfl | exact subVs_d _ _ | refine And.intro ?_ ?_))
  intro k hk
  rcases Nat.lt_or_ge k l.length with hlt | hge
  · have hd2 := ltd hlt
    have hA := hall k (by omega)
    have hA1 := hall (k + 1) (by omega)
    have hst := acts_step n l k hlt
    have hm : l.getD k default ∈ l := mem_getD hlt
    have hgl : l.getD k default = l[k] := by simp [List.getD_eq_getElem?_getD, List.getElem?_eq_getElem hlt]
    have hga := getD_acts l k
    obtain ⟨ao1, ao2⟩ := ha _ hm
    rw [← hgl] at hst
    generalize hS : actsF n (l.take k) = S at *
    generalize l.getD k default = a at *
    have hsm := hA.sm (by omega)
    have hdo := gdo_spec S.1 a (hA.inv.ok (by have := hsm.1; omega) (by have := hsm.2; omega)) (fun _ => hA.inv.few hsm.1 hsm.2) ao1 ao2
    by_cases h0 : doE S.1 a = 0
    · rw [h0] at hdo
      obtain ⟨a1, a2, a3, a4, a5, a6⟩ := hA.inv.act hsm ao1 h0
      have hst' : actsF n (l.take (k + 1)) = (doR S.1 a, if a.kind = 1 then learnL S.2 a.hand else S.2) := by rw [hst]; unfold stepA; rw [if_pos h0]
      rw [hst'] at hA1
      have hlen : (((doR S.1 a).peers.length : Int) != n) = false := by have := hA1.inv.len; dsimp only at this; simp; omega
      have hq : decide (((doR S.1 a).net.queue.length : Int) > 200) = false := decide_eq_false (by have := hA1.lenQ; dsimp only at this; omega)
      by_cases hk1 : a.kind = 1
      · have hkb : (a.kind == 1) = true := by simpa using hk1
        have hle := q54learn_spec S.2 a.hand hA.ordT hA.inv.fT (a1 hk1) (by have := hA.lenT; omega)
        rw [if_pos hk1] at hst'
        repeat' (first | (with_reducible refine aw_seq ?_) | ((with_reducible refine two_intro ?_ ?_) <;> intro h <;> first | contradiction | ((first | (guard_hyp h : true = true; clear h) | (guard_hyp h : false = false; clear h) | (revert h; intro _)))) | ((with_reducible refine And.intro ?_ ?_); (focus (first | omega | rfl))) | (with_reducible refine aw_block ?_) | ((first | ((with_reducible refine aw_regionA T_ok ?_ ?_); kernel_rfl) | ((with_reducible refine callI_spec (hdo) ?_ ?_ ?_ ?_); (focus (((repeat' (first | exact ta_n | refine ta_a ?_)); done))); kernel_rfl; kernel_rfl) | ((with_reducible refine callI_spec (hle) ?_ ?_ ?_ ?_); (focus (((repeat' (first | exact ta_n | refine ta_a ?_ | refine ta_d ?_)); done))); kernel_rfl; kernel_rfl) | (with_reducible refine aw_skip ?_) | ((with_reducible refine aw_condM ?_ ?_); kernel_rfl) ); simp only [↓avP, avQ, avR, forall_const, implies_true, Nat.reduceEqDiff, Nat.reduceAdd, Nat.reduceLeDiff, reduceCtorEq, rm_dr, roomD_B, actS, ↓zA_one, zA_map, ty_A, handS, ty_H, ty_3, ty_31, ty_22, ty_25, ty_29, ty_26, hd2, hga, hlen, hq, hkb]; try simp (disch := omega) only [av_w]))
        refine ⟨k + 1, by omega, by dsimp only; omega, wk_of [(0, some 0)] rfl rfl ?_ ?_⟩
        · simp only [wkA, reduceIte, Nat.reduceEqDiff, hst']
          (repeat' (first | rfl | exact subVs_d _ _ | refine And.intro ?_ ?_))
        · simp only [wkA, reduceIte, Nat.reduceEqDiff, hst']
          (repeat' (first | rfl | exact subVs_d _ _ | refine And.intro ?_ ?_))
      · have hkb : (a.kind == 1) = false := by simpa using hk1
        rw [if_neg hk1] at hst'
        repeat' (first | (with_reducible refine aw_seq ?_) | ((with_reducible refine two_intro ?_ ?_) <;> intro h <;> first | contradiction | ((first | (guard_hyp h : true = true; clear h) | (guard_hyp h : false = false; clear h) | (revert h; intro _)))) | ((with_reducible refine And.intro ?_ ?_); (focus (first | omega | rfl))) | (with_reducible refine aw_block ?_) | ((first | ((with_reducible refine aw_regionA T_ok ?_ ?_); kernel_rfl) | ((with_reducible refine callI_spec (hdo) ?_ ?_ ?_ ?_); (focus (((repeat' (first | exact ta_n | refine ta_a ?_)); done))); kernel_rfl; kernel_rfl) | (with_reducible refine aw_skip ?_) | ((with_reducible refine aw_condM ?_ ?_); kernel_rfl) ); simp only [↓avP, avQ, avR, forall_const, implies_true, Nat.reduceEqDiff, Nat.reduceAdd, Nat.reduceLeDiff, reduceCtorEq, rm_dr, roomD_B, actS, ↓zA_one, zA_map, ty_A, ty_3, ty_31, ty_22, ty_25, ty_29, ty_26, hd2, hga, hlen, hq, hkb]; try simp (disch := omega) only [av_w]))
        refine ⟨k + 1, by omega, by dsimp only; omega, wk_of [(0, some 0)] rfl rfl ?_ ?_⟩
        · simp only [wkA, reduceIte, Nat.reduceEqDiff, hst']
          (repeat' (first | rfl | exact subVs_d _ _ | refine And.intro ?_ ?_))
        · simp only [wkA, reduceIte, Nat.reduceEqDiff, hst']
          (repeat' (first | rfl | exact subVs_d _ _ | refine And.intro ?_ ?_))
    · have hR := doR_bad h0
      have hst' : actsF n (l.take (k + 1)) = S := by rw [hst]; unfold stepA; rw [if_neg h0]
      have hne : (doE S.1 a != 0) = true := by simpa using h0
      rw [hR] at hdo
      repeat' (first | (with_reducible refine aw_seq ?_) | ((with_reducible refine two_intro ?_ ?_) <;> intro h <;> first | contradiction | ((first | (guard_hyp h : true = true; clear h) | (revert h; intro _)))) | ((with_reducible refine And.intro ?_ ?_); (focus (first | omega | rfl))) | (with_reducible refine aw_block ?_) | ((first | ((with_reducible refine aw_regionA T_ok ?_ ?_); kernel_rfl) | ((with_reducible refine callI_spec (hdo) ?_ ?_ ?_ ?_); (focus (((repeat' (first | exact ta_n | refine ta_a ?_)); done))); kernel_rfl; kernel_rfl) | (with_reducible refine aw_skip ?_) | (with_reducible refine aw_exit ?_) | ((with_reducible refine aw_condM ?_ ?_); kernel_rfl) ); simp only [↓avP, avQ, avR, forall_const, implies_true, Nat.reduceEqDiff, Nat.reduceAdd, Nat.reduceLeDiff, reduceCtorEq, roomD_B, actS, ↓zA_one, zA_map, ty_A, ty_31, ty_22, ty_25, ty_29, ty_26, hd2, hga, hne]; try simp (disch := omega) only [av_w]))
      refine ⟨k + 1, by omega, by dsimp only; omega, wk_of [(0, some 0)] rfl rfl ?_ ?_⟩
      · simp only [wkA, reduceIte, Nat.reduceEqDiff, hst', hS]
        (repeat' (first | rfl | exact subVs_d _ _ | refine And.intro ?_ ?_))
      · simp only [wkA, reduceIte, Nat.reduceEqDiff, hst', hS]
        (repeat' (first | rfl | exact subVs_d _ _ | refine And.intro ?_ ?_))
  · obtain rfl : k = l.length := by omega
    have hd2 := ged (Nat.le_refl l.length)
    repeat' (first | (with_reducible refine aw_seq ?_) | ((with_reducible refine two_intro ?_ ?_) <;> intro h <;> first | contradiction | (((guard_hyp h : false = false; clear h)))) | ((first | ((with_reducible refine aw_regionA T_ok ?_ ?_); kernel_rfl) | (with_reducible refine aw_exit ?_) | ((with_reducible refine aw_condM ?_ ?_); kernel_rfl) | (with_reducible refine aw_ret ?_) ); simp only [↓avP, avQ, avR, forall_const, implies_true, Nat.reduceEqDiff, Nat.reduceLeDiff, reduceCtorEq, avS, rm_dr, roomD_B, ty_31, hd2]; try simp (disch := omega) only [av_w, av_t1, av_tp, Int.toNat_natCast]))
    rw [List.take_length]
    exact ⟨Sub.refl _, Sub.refl _, Sub.refl _⟩
end Go.Proofs.Ythidfoohhhkobaa


namespace Go.Proofs.Ythidfoohhhkobaa
set_option linter.unusedSimpArgs false
set_option linter.unusedVariables false
open Go.RowKit
set_option maxRecDepth 100000
set_option maxHeartbeats 4000000
theorem spec_sub {P : Program} {f : FuncId} {xs ys : List A} {r : Ret} (h : Spec P f ys r) (hs : SubL xs ys) : Spec P f xs r := fun F w us hF hus => h F w us hF (subL_ok hs hus)
theorem dA_p : (default : ActP).peer = 0 := rfl
theorem dA_t : (default : ActP).to_ = 0 := rfl
theorem dA_a : (default : ActP).at_ = 0 := rfl
theorem dA_h : (default : ActP).hand = default := rfl
theorem tmod_nat (a b : Nat) : ((a : Int)).tmod (b : Int) = ((a % b : Nat) : Int) := by rw [Int.tmod_eq_emod_of_nonneg (by omega)]; omega
theorem wrap_u8 (b : UInt8) : IntKind.i64.wrap (b.toNat : Int) = (b.toNat : Int) := by
  have := b.toNat_lt
  rw [IntKind.wrap_i64]; omega
theorem by_h (b : UInt8) : (dV (byD b)).head? = some (.d (.c (.int .u8 (b.toNat : Int)))) := rfl
theorem hOk_dflt : hOk (default : Hd) := hOk_zero
theorem gdrained_spec {n : Nat} {T : List Hd} (r : RoomP) (o : List UInt8) (k : Nat) (hr : RInv n T r) (hs : r.net.queue.length ≤ 2900 ∧ T.length ≤ 1000) (ho : o.length ≤ 100)
    (hk0 : (drainN o r k).net.queue = []) (hkj : ∀ j, j < k → (drainN o r j).net.queue ≠ []) (hinv : ∀ j, j ≤ k → RInv n T (drainN o r j) ∧ (drainN o r j).net.queue.length ≤ r.net.queue.length) (hkm : k ≤ o.length + r.net.queue.length) :
    Spec Try.prog 9 [aRoom r, .one (bsD o)] (.rt [aRoom (drainN o r k), aB true]) := by
  have hn4 := hr.n4
  have hpl := hr.len
  refine spec_of T_ok Try.func9 (by dsimp only [Try.f9]) rfl rfl (by simp) fun w F => ?_
  repeat' (first | (with_reducible refine aw_seq ?_) | ((with_reducible refine And.intro ?_ ?_); (focus (rfl))) | (with_reducible refine aw_block ?_) | ((((with_reducible refine aw_regionA T_ok ?_ ?_); kernel_rfl) |  ); simp only [↓avP, avQ, avR, forall_const, implies_true, Nat.reduceEqDiff, Nat.reduceAdd, reduceCtorEq, avS, roomD_B, ty_31, ty_25]; try simp (disch := omega) only [av_w, av_t1, av_tp, Int.toNat_natCast]))
  refine aw_loopI (fun i : Nat => ⟨[(1, .d (bsD o)), (2, .ptr 0 0), (4, .ptr 1 0), (6, vI n), (7, vI i)], [(1, .cells 31 [.d (.c (.slice none 0 0)), .d (.c (.slice none 0 0)), .d (.c (.slice none 0 0))]), (0, .cells 31 (dV (roomD (drainN o r i))))], 2⟩) (fun i => i ≤ k) (fun i => k - i) 0 (Nat.zero_le _) (wk_of [(0, some 0), (1, some 1)] rfl rfl ?_ ?_) ?_
  · simp only [wkA, reduceIte, Nat.reduceEqDiff, hpl]
    (repeat' (first | rfl | exact subVs_d _ _))
  · simp only [wkA, reduceIte, Nat.reduceEqDiff]
    (repeat' (first | rfl | exact subVs_d _ _))
  intro i hi
  obtain ⟨hR, hRq⟩ := hinv i hi
  rcases Nat.lt_or_ge i k with hlt | hge
  · have hne := hkj i hlt
    obtain ⟨hR1, hRq1⟩ := hinv (i + 1) (by omega)
    obtain ⟨d0, d1, d2, d3⟩ := drainS_ok hR ⟨by omega, hs.2⟩ hne o i
    obtain ⟨e1, e2, e3, e4⟩ := repS_ok hR ⟨by omega, hs.2⟩ hne o i
    have hS : drainN o r (i + 1) = drainS o i (drainN o r i) := rfl
    generalize drainN o r i = R at *
    have hl0 : 0 < R.net.queue.length := List.length_pos_iff.2 hne
    have hq0 : decide ((R.net.queue.length : Int) > 0) = true := decide_eq_true (by omega)
    have zi : Cd.i64R 5 := ⟨by decide, by decide⟩
    have z3 : Cd.i64R 3 := ⟨by decide, by decide⟩
    have hdr := gdo_spec R (repA ((atO o i % R.net.queue.length : Nat) : Int)) (hR.ok (by omega) (by have := hs.2; omega)) (fun _ => hR.few (by omega) hs.2) hOk_dflt zi
    have hdd := gdo_spec (repS o i R) (delA ((atO o i % (repS o i R).net.queue.length : Nat) : Int)) (e1.ok (by rw [e2]; split <;> omega) (by have := hs.2; omega)) (fun _ => e1.few (by rw [e2]; split <;> omega) hs.2) hOk_dflt z3
    rw [d0] at hdd
    have hlen1 : (((repS o i R).peers.length : Int) != (n : Int)) = false := by have := e1.len; simp; omega
    have hlen2 : (((drainS o i R).peers.length : Int) != (n : Int)) = false := by have := d1.len; simp; omega
    have hlq2 : (((drainS o i R).net.queue.length : Int) != ((repS o i R).net.queue.length : Int) - 1) = false := by simp; omega
    rw [show doR (repS o i R) (delA ((atO o i % (repS o i R).net.queue.length : Nat) : Int)) = drainS o i R from rfl] at hdd
    by_cases hio : i < o.length
    · have hd : decide ((i : Int) < (o.length : Int)) = true := decide_eq_true (by omega)
      have hat : atO o i = (o.getD i 0).toNat := by unfold atO; rw [if_pos hio]
      cases hrp : repO o i with
      | true =>
        have hRS : repS o i R = doR R (repA ((atO o i % R.net.queue.length : Nat) : Int)) := by unfold repS; rw [if_pos hrp]
        rw [e4 hrp, ← hRS] at hdr
        generalize repS o i R = R1 at *
        generalize drainS o i R = R2 at *
        have hlt1 : ((o.getD i 0).toNat : Int).tmod (R.net.queue.length : Int) = ((atO o i % R.net.queue.length : Nat) : Int) := by rw [hat]; exact tmod_nat _ _
        have hlt2 : ((o.getD i 0).toNat : Int).tmod (R1.net.queue.length : Int) = ((atO o i % R1.net.queue.length : Nat) : Int) := by rw [hat]; exact tmod_nat _ _
        have hw1 : IntKind.i64.wrap ((R1.net.queue.length : Int) - 1) = (R1.net.queue.length : Int) - 1 := by
          have h9 := e2
          simp only [hrp, if_true] at h9
          rw [IntKind.wrap_i64]; omega
        have h200 : decide (((o.getD i 0).toNat : Int) ≥ 200) = true := by unfold repO at hrp; rw [Bool.and_eq_true] at hrp; exact decide_eq_true (by have := of_decide_eq_true hrp.2; omega)
        have hlq1 : ((R1.net.queue.length : Int) != (R.net.queue.length : Int) + 1) = false := by simp only [hrp, if_true] at e2; simp; omega
        repeat' (first | (with_reducible refine aw_seq ?_) | ((with_reducible refine two_intro ?_ ?_) <;> intro h <;> first | contradiction | ((first | (guard_hyp h : true = true; clear h) | (revert h; intro _)))) | ((with_reducible refine And.intro ?_ ?_); (focus (first | omega | rfl))) | (with_reducible refine aw_block ?_) | ((first | ((with_reducible refine aw_regionA T_ok ?_ ?_); kernel_rfl) | ((with_reducible refine aw_drawnEA (id := 9) [(13, 12)] [] T_ok ?_ ?_ ?_ ?_ ?_); kernel_rfl; kernel_rfl; (focus (decide +kernel)); kernel_rfl) | ((with_reducible refine aw_drawnEA (id := 14) [(10, 9)] [] T_ok ?_ ?_ ?_ ?_ ?_); kernel_rfl; kernel_rfl; (focus (decide +kernel)); kernel_rfl) | ((with_reducible refine callK_intro (hdr) ?_ ?_ ?_); (focus (with_unfolding_all rfl)); kernel_rfl) | ((with_reducible refine callK_intro (hdd) ?_ ?_ ?_); (focus (with_unfolding_all rfl)); kernel_rfl) | (with_reducible refine fin2_intro ?_) | (with_reducible refine aw_skip ?_) | ((with_reducible refine aw_condM ?_ ?_); kernel_rfl) ); simp only [↓avP, avQ, avR, forall_const, implies_true, Nat.reduceEqDiff, Nat.reduceAdd, Nat.reduceLeDiff, reduceCtorEq, ↓earlyL.eq_def, rm_dr, by_h, ↓ac_s0, ↓ac_s3, dA_p, dA_t, dA_a, dA_h, roomD_B, actS, ↓zA_one, ↓zA_cells, ty_A, ty_3, ty_5, ty_31, ty_25, ty_29, ty_26, ty_23, hq0, hd, wrap_u8, hlt1, hlt2, h200, hlen1, hlen2, hlq1, hlq2, hw1]; try simp (disch := omega) only [av_w]))
        refine ⟨i + 1, by omega, by dsimp only; omega, wk_of [(0, some 0), (1, some 1)] rfl rfl ?_ ?_⟩
        · simp only [wkA, reduceIte, Nat.reduceEqDiff]
          (repeat' (first | rfl | exact subVs_d _ _))
        · simp only [wkA, reduceIte, Nat.reduceEqDiff, hS]
          (repeat' (first | rfl | exact subVs_d _ _))
      | false =>
        have hRS : repS o i R = R := by unfold repS; rw [if_neg (by rw [hrp]; simp)]
        rw [hRS] at d2 hdd hlq2 hlen1
        generalize drainS o i R = R2 at *
        have hlt2 : ((o.getD i 0).toNat : Int).tmod (R.net.queue.length : Int) = ((atO o i % R.net.queue.length : Nat) : Int) := by rw [hat]; exact tmod_nat _ _
        have hw1 : IntKind.i64.wrap ((R.net.queue.length : Int) - 1) = (R.net.queue.length : Int) - 1 := by rw [IntKind.wrap_i64]; omega
        have h200 : decide (((o.getD i 0).toNat : Int) ≥ 200) = false := by
          unfold repO at hrp
          rw [decide_eq_true hio, Bool.true_and] at hrp
          exact decide_eq_false (by have := of_decide_eq_false hrp; omega)
        repeat' (first | (with_reducible refine aw_seq ?_) | ((with_reducible refine two_intro ?_ ?_) <;> intro h <;> first | contradiction | ((first | (guard_hyp h : true = true; clear h) | (guard_hyp h : false = false; clear h) | (revert h; intro _)))) | ((with_reducible refine And.intro ?_ ?_); (focus (first | omega | rfl))) | (with_reducible refine aw_block ?_) | ((first | ((with_reducible refine aw_regionA T_ok ?_ ?_); kernel_rfl) | ((with_reducible refine aw_drawnEA (id := 14) [(10, 9)] [] T_ok ?_ ?_ ?_ ?_ ?_); kernel_rfl; kernel_rfl; (focus (decide +kernel)); kernel_rfl) | ((with_reducible refine callK_intro (hdd) ?_ ?_ ?_); (focus (with_unfolding_all rfl)); kernel_rfl) | (with_reducible refine fin2_intro ?_) | (with_reducible refine aw_skip ?_) | ((with_reducible refine aw_condM ?_ ?_); kernel_rfl) ); simp only [↓avP, avQ, avR, forall_const, implies_true, Nat.reduceEqDiff, Nat.reduceAdd, Nat.reduceLeDiff, reduceCtorEq, ↓earlyL.eq_def, rm_dr, by_h, ↓ac_s0, ↓ac_s3, dA_p, dA_t, dA_a, dA_h, roomD_B, actS, ↓zA_one, ↓zA_cells, ty_A, ty_3, ty_5, ty_31, ty_25, ty_29, ty_26, ty_23, hq0, hd, wrap_u8, hlt2, h200, hlen2, hlq2, hw1]; try simp (disch := omega) only [av_w]))
        refine ⟨i + 1, by omega, by dsimp only; omega, wk_of [(0, some 0), (1, some 1)] rfl rfl ?_ ?_⟩
        · simp only [wkA, reduceIte, Nat.reduceEqDiff]
          (repeat' (first | rfl | exact subVs_d _ _))
        · simp only [wkA, reduceIte, Nat.reduceEqDiff, hS]
          (repeat' (first | rfl | exact subVs_d _ _))
    · have hd : decide ((i : Int) < (o.length : Int)) = false := decide_eq_false (by omega)
      have hat : atO o i = 0 := by unfold atO; rw [if_neg hio]
      have hrp : repO o i = false := by unfold repO; rw [decide_eq_false hio, Bool.false_and]
      have hRS : repS o i R = R := by unfold repS; rw [if_neg (by rw [hrp]; simp)]
      rw [hRS] at d2 hdd hlq2 hlen1
      generalize drainS o i R = R2 at *
      have hlt2 : Int.tmod 0 (R.net.queue.length : Int) = ((atO o i % R.net.queue.length : Nat) : Int) := by rw [hat]; simp
      have hw1 : IntKind.i64.wrap ((R.net.queue.length : Int) - 1) = (R.net.queue.length : Int) - 1 := by rw [IntKind.wrap_i64]; omega
      repeat' (first | (with_reducible refine aw_seq ?_) | ((with_reducible refine two_intro ?_ ?_) <;> intro h <;> first | contradiction | ((first | (guard_hyp h : true = true; clear h) | (guard_hyp h : false = false; clear h) | (revert h; intro _)))) | ((with_reducible refine And.intro ?_ ?_); (focus (first | omega | rfl | grind))) | (with_reducible refine aw_block ?_) | ((first | ((with_reducible refine aw_regionA T_ok ?_ ?_); kernel_rfl) | ((with_reducible refine aw_drawnEA (id := 14) [(10, 9)] [] T_ok ?_ ?_ ?_ ?_ ?_); kernel_rfl; kernel_rfl; (focus (decide +kernel)); kernel_rfl) | ((with_reducible refine callK_intro (hdd) ?_ ?_ ?_); (focus (with_unfolding_all rfl)); kernel_rfl) | (with_reducible refine fin2_intro ?_) | (with_reducible refine aw_skip ?_) | ((with_reducible refine aw_condM ?_ ?_); kernel_rfl) ); simp only [↓avP, avQ, avR, forall_const, implies_true, Nat.reduceEqDiff, Nat.reduceAdd, Nat.reduceLeDiff, reduceCtorEq, ↓earlyL.eq_def, rm_dr, by_h, ↓ac_s0, ↓ac_s3, dA_p, dA_t, dA_a, dA_h, roomD_B, actS, ↓zA_one, ↓zA_cells, ty_A, ty_5, ty_31, ty_25, ty_29, ty_26, ty_23, hq0, hd, hlt2, hlen2, hlq2, hw1]; try simp (disch := omega) only [av_w]))
      refine ⟨i + 1, by omega, by dsimp only; omega, wk_of [(0, some 0), (1, some 1)] rfl rfl ?_ ?_⟩
      · simp only [wkA, reduceIte, Nat.reduceEqDiff]
        (repeat' (first | rfl | exact subVs_d _ _))
      · simp only [wkA, reduceIte, Nat.reduceEqDiff, hS]
        (repeat' (first | rfl | exact subVs_d _ _))
  · obtain rfl : i = k := by omega
    have hq0 : decide (((drainN o r i).net.queue.length : Int) > 0) = false := by rw [hk0]; rfl
    repeat' (first | (with_reducible refine aw_seq ?_) | ((with_reducible refine two_intro ?_ ?_) <;> intro h <;> first | contradiction | (((guard_hyp h : false = false; clear h)))) | ((first | ((with_reducible refine aw_regionA T_ok ?_ ?_); kernel_rfl) | (with_reducible refine aw_exit ?_) | ((with_reducible refine aw_condM ?_ ?_); kernel_rfl) | (with_reducible refine aw_ret ?_) ); simp only [↓avP, avQ, avR, forall_const, implies_true, Nat.reduceEqDiff, Nat.reduceAdd, Nat.reduceLeDiff, reduceCtorEq, avS, roomD_B, ty_31, ty_29, ty_26, hq0]; try simp (disch := omega) only [av_w, av_t1, av_tp, Int.toNat_natCast]))
    exact ⟨Sub.refl _, Sub.refl _⟩
end Go.Proofs.Ythidfoohhhkobaa


namespace Go.Proofs.Ythidfoohhhkobaa
set_option linter.unusedSimpArgs false
set_option linter.unusedVariables false
open Go.RowKit
set_option maxRecDepth 100000
set_option maxHeartbeats 4000000
theorem q54sameHands_spec (t : List Hd) (hl : t.length ≤ 140737488351232) : Spec Try.prog 14 [.one (handsD t), .one (handsD t)] (.r1 (aB true)) := by
  refine spec_of T_ok Try.func14 (by dsimp only [Try.f14]) rfl rfl (by simp) fun w F => ?_
  have hn : ((t.length : Int) != (t.length : Int)) = false := by simp
  repeat' (first | (with_reducible refine aw_seq ?_) | ((with_reducible refine two_intro ?_ ?_) <;> intro h <;> first | contradiction | (((guard_hyp h : false = false; clear h)))) | (with_reducible refine aw_block ?_) | ((first | ((with_reducible refine aw_regionA T_ok ?_ ?_); kernel_rfl) | (with_reducible refine aw_skip ?_) | ((with_reducible refine aw_condM ?_ ?_); kernel_rfl) ); simp only [↓avP, avQ, avR, forall_const, implies_true, Nat.reduceEqDiff, Nat.reduceAdd, reduceCtorEq, avS, ty_32, hn]; try simp (disch := omega) only [av_w, av_t1, av_tp, Int.toNat_natCast]))
  refine aw_loopI (fun k : Nat => ⟨[(0, .d (handsD t)), (1, .d (handsD t)), (5, vI k)], [], 0⟩) (fun k => k ≤ t.length) (fun k => t.length - k) 0 (Nat.zero_le _) (wk_of [] rfl rfl ?_ ?_) ?_
  · simp only [wkA, reduceIte, Nat.reduceEqDiff]
    (repeat' (first | rfl | exact subVs_d _ _))
  · simp only [wkA, reduceIte, Nat.reduceEqDiff]
  intro k hk
  rcases Nat.lt_or_ge k t.length with hlt | hge
  · have hd2 := ltd hlt
    have hnk : decide (t.getD k default = t.getD k default) = true := decide_eq_true rfl
    repeat' (first | (with_reducible refine aw_seq ?_) | ((with_reducible refine two_intro ?_ ?_) <;> intro h <;> first | contradiction | ((first | (guard_hyp h : true = true; clear h) | (guard_hyp h : false = false; clear h)))) | ((with_reducible refine And.intro ?_ ?_); (focus (first | exact eqHand | omega))) | (with_reducible refine aw_block ?_) | ((first | ((with_reducible refine aw_regionA T_ok ?_ ?_); kernel_rfl) | ((with_reducible refine aw_drawnA T_ok ?_ ?_ ?_ ?_); kernel_rfl; kernel_rfl; (focus (decide +kernel))) | (with_reducible refine aw_skip ?_) | ((with_reducible refine aw_condM ?_ ?_); kernel_rfl) ); simp only [↓avP, avQ, avR, forall_const, implies_true, Nat.reduceEqDiff, Nat.reduceAdd, Nat.reduceLeDiff, reduceCtorEq, handS, ty_H, ty_32, hd2]; try simp (disch := omega) only [av_w]))
    refine ⟨k + 1, by omega, by dsimp only; omega, wk_of [] rfl rfl ?_ ?_⟩
    · simp only [wkA, reduceIte, Nat.reduceEqDiff]
      (repeat' (first | rfl | exact subVs_d _ _))
    · simp only [wkA, reduceIte, Nat.reduceEqDiff]
  · obtain rfl : k = t.length := by omega
    have hd2 := ged (Nat.le_refl t.length)
    repeat' (first | (with_reducible refine aw_seq ?_) | ((with_reducible refine two_intro ?_ ?_) <;> intro h <;> first | contradiction | (((guard_hyp h : false = false; clear h)))) | (with_reducible refine aw_block ?_) | ((first | ((with_reducible refine aw_regionA T_ok ?_ ?_); kernel_rfl) | (with_reducible refine aw_exit ?_) | ((with_reducible refine aw_condM ?_ ?_); kernel_rfl) | (with_reducible refine aw_ret ?_) ); simp only [↓avP, avQ, avR, forall_const, implies_true, Nat.reduceEqDiff, reduceCtorEq, avS, roomD_B, netD_B, ty_32, ty_29, ty_26, ty_31, ty_25, hd2]; try simp (disch := omega) only [av_w, av_t1, av_tp, Int.toNat_natCast]))
    exact Sub.refl _
theorem q06samePk_spec (p : Pk) (hl : p.data.length ≤ 140737488351232) : Spec Try.prog 38 [aPk p, aPk p] (.r1 (aB true)) := by
  refine spec_of T_ok Try.func38 (by dsimp only [Try.f38]) rfl rfl (by simp) fun w F => ?_
  have h1 : (p.frm == p.frm) = true := by simp
  have h2 : (p.to_ == p.to_) = true := by simp
  have h3 : (p.data == p.data) = true := by simp
  repeat' (first | (with_reducible refine aw_seq ?_) | ((with_reducible refine And.intro ?_ ?_); (focus (rfl))) | ((first | ((with_reducible refine aw_regionA T_ok ?_ ?_); kernel_rfl) | (with_reducible refine aw_ret ?_) ); simp only [↓avP, avQ, avR, forall_const, implies_true, Nat.reduceEqDiff, Nat.reduceAdd, reduceCtorEq, avS, pkD_B, u8s_by, strOf_by, str_tl, ty_3, ty_63, ty_23, ty_9]; try simp (disch := omega) only [av_w, av_t1, av_tp, Int.toNat_natCast]))
  all_goals exact Sub.refl _
theorem q06same_spec (n : NetP) (hn : okNet n) (hp : ∀ p ∈ n.queue, p.data.length ≤ 1000000) : Spec Try.prog 20 [.agg (netD n), .agg (netD n)] (.r1 (aB true)) := by
  obtain ⟨hql, hal⟩ := hn
  have hn1 : ((n.queue.length : Int) != (n.queue.length : Int)) = false := by simp
  have hn2 : ((n.apart.length : Int) != (n.apart.length : Int)) = false := by simp
  refine spec_of T_ok Try.func20 (by dsimp only [Try.f20]) rfl rfl (by simp) fun w F => ?_
  repeat' (first | (with_reducible refine aw_seq ?_) | ((with_reducible refine two_intro ?_ ?_) <;> intro h <;> first | contradiction | (((guard_hyp h : false = false; clear h)))) | (with_reducible refine aw_block ?_) | ((first | ((with_reducible refine aw_regionA T_ok ?_ ?_); kernel_rfl) | (with_reducible refine aw_skip ?_) | ((with_reducible refine aw_condM ?_ ?_); kernel_rfl) ); simp only [↓avP, avQ, avR, forall_const, implies_true, Nat.reduceEqDiff, Nat.reduceAdd, reduceCtorEq, avS, netD_B, ty_29, ty_26, ty_27, hn1, hn2]; try simp (disch := omega) only [av_w, av_t1, av_tp, Int.toNat_natCast]))
  refine aw_loopI (fun k : Nat => ⟨[(2, .ptr 0 0), (3, .ptr 1 0), (5, vI k)], [(1, .cells 29 (dV (netD n))), (0, .cells 29 (dV (netD n)))], 2⟩) (fun k => k ≤ n.queue.length) (fun k => n.queue.length - k) 0 (Nat.zero_le _) (wk_of [(0, some 0), (1, some 1)] rfl rfl ?_ ?_) ?_
  · simp only [wkA, reduceIte, Nat.reduceEqDiff]
    (repeat' (first | rfl | exact subVs_d _ _))
  · simp only [wkA, reduceIte, Nat.reduceEqDiff]
    (repeat' (first | rfl | exact subVs_d _ _))
  intro k hk
  rcases Nat.lt_or_ge k n.queue.length with hlt | hge
  · have hd2 := ltd hlt
    have hm : n.queue.getD k default ∈ n.queue := mem_getD hlt
    have hs := q06samePk_spec (n.queue.getD k default) (by have := hp _ hm; omega)
    repeat' (first | (with_reducible refine aw_seq ?_) | ((with_reducible refine two_intro ?_ ?_) <;> intro h <;> first | contradiction | ((first | (guard_hyp h : true = true; clear h) | (guard_hyp h : false = false; clear h)))) | ((with_reducible refine And.intro ?_ ?_); (focus (omega))) | (with_reducible refine aw_block ?_) | ((first | ((with_reducible refine aw_regionA T_ok ?_ ?_); kernel_rfl) | ((with_reducible refine aw_drawnA T_ok ?_ ?_ ?_ ?_); kernel_rfl; kernel_rfl; (focus (decide +kernel))) | ((with_reducible refine callK_intro (hs) ?_ ?_ ?_); (focus (with_unfolding_all rfl)); kernel_rfl) | (with_reducible refine aw_skip ?_) | ((with_reducible refine aw_condM ?_ ?_); kernel_rfl) ); simp only [↓avP, avQ, avR, forall_const, implies_true, Nat.reduceEqDiff, Nat.reduceAdd, Nat.reduceLeDiff, reduceCtorEq, netD_B, pkD_B, ty_29, ty_63, ty_26, hd2]; try simp (disch := omega) only [av_w, Int.toNat_natCast]))
    refine ⟨k + 1, by omega, by dsimp only; omega, wk_of [(0, some 0), (1, some 1)] rfl rfl ?_ ?_⟩
    · simp only [wkA, reduceIte, Nat.reduceEqDiff]
      (repeat' (first | rfl | exact subVs_d _ _))
    · simp only [wkA, reduceIte, Nat.reduceEqDiff]
      (repeat' (first | rfl | exact subVs_d _ _))
  obtain rfl : k = n.queue.length := by omega
  have hd2 := ged (Nat.le_refl n.queue.length)
  repeat' (first | (with_reducible refine aw_seq ?_) | ((with_reducible refine two_intro ?_ ?_) <;> intro h <;> first | contradiction | (((guard_hyp h : false = false; clear h)))) | (with_reducible refine aw_block ?_) | ((first | ((with_reducible refine aw_regionA T_ok ?_ ?_); kernel_rfl) | (with_reducible refine aw_exit ?_) | ((with_reducible refine aw_condM ?_ ?_); kernel_rfl) | (with_reducible refine aw_ret ?_) ); simp only [↓avP, avQ, avR, forall_const, implies_true, Nat.reduceEqDiff, reduceCtorEq, avS, roomD_B, netD_B, ty_32, ty_29, ty_26, ty_31, ty_25, hd2]; try simp (disch := omega) only [av_w, av_t1, av_tp, Int.toNat_natCast]))
  refine aw_loopI (fun k : Nat => ⟨[(2, .ptr 0 0), (3, .ptr 1 0), (6, vI k)], [(1, .cells 29 (dV (netD n))), (0, .cells 29 (dV (netD n)))], 2⟩) (fun k => k ≤ n.apart.length) (fun k => n.apart.length - k) 0 (Nat.zero_le _) (wk_of [(0, some 0), (1, some 1)] rfl rfl ?_ ?_) ?_
  · simp only [wkA, reduceIte, Nat.reduceEqDiff]
    (repeat' (first | rfl | exact subVs_d _ _))
  · simp only [wkA, reduceIte, Nat.reduceEqDiff]
    (repeat' (first | rfl | exact subVs_d _ _))
  intro k hk
  rcases Nat.lt_or_ge k n.apart.length with hlt | hge
  · have hd3 := ltd hlt
    have hse : ([(n.apart.getD k default).1, (n.apart.getD k default).2] == [(n.apart.getD k default).1, (n.apart.getD k default).2]) = true := by simp
    repeat' (first | (with_reducible refine aw_seq ?_) | ((with_reducible refine two_intro ?_ ?_) <;> intro h <;> first | contradiction | ((first | (guard_hyp h : true = true; clear h) | (guard_hyp h : false = false; clear h)))) | ((with_reducible refine And.intro ?_ ?_); (focus (first | exact eqPair | omega))) | (with_reducible refine aw_block ?_) | ((first | ((with_reducible refine aw_regionA T_ok ?_ ?_); kernel_rfl) | ((with_reducible refine aw_drawnA T_ok ?_ ?_ ?_ ?_); kernel_rfl; kernel_rfl; (focus (decide +kernel))) | (with_reducible refine aw_skip ?_) | ((with_reducible refine aw_condM ?_ ?_); kernel_rfl) ); simp only [↓avP, avQ, avR, forall_const, implies_true, Nat.reduceEqDiff, Nat.reduceAdd, Nat.reduceLeDiff, reduceCtorEq, netD_B, prD_B, ty_29, ty_93, ty_27, hd3]; try simp (disch := omega) only [av_w]))
    refine ⟨k + 1, by omega, by dsimp only; omega, wk_of [(0, some 0), (1, some 1)] rfl rfl ?_ ?_⟩
    · simp only [wkA, reduceIte, Nat.reduceEqDiff]
      (repeat' (first | rfl | exact subVs_d _ _))
    · simp only [wkA, reduceIte, Nat.reduceEqDiff]
      (repeat' (first | rfl | exact subVs_d _ _))
  · obtain rfl : k = n.apart.length := by omega
    have hd3 := ged (Nat.le_refl n.apart.length)
    repeat' (first | (with_reducible refine aw_seq ?_) | ((with_reducible refine two_intro ?_ ?_) <;> intro h <;> first | contradiction | (((guard_hyp h : false = false; clear h)))) | ((first | ((with_reducible refine aw_regionA T_ok ?_ ?_); kernel_rfl) | (with_reducible refine aw_exit ?_) | ((with_reducible refine aw_condM ?_ ?_); kernel_rfl) | (with_reducible refine aw_ret ?_) ); simp only [↓avP, avQ, avR, forall_const, implies_true, Nat.reduceEqDiff, reduceCtorEq, avS, netD_B, ty_29, ty_27, hd3]; try simp (disch := omega) only [av_w, av_t1, av_tp, Int.toNat_natCast]))
    exact Sub.refl _
theorem q54same_spec (r : RoomP) (ho : okRoom r) : Spec Try.prog 10 [aRoom r, aRoom r] (.r1 (aB true)) := by
  have hpl : r.peers.length ≤ 140737488351232 := ho.1
  have hs6 := q06same_spec r.net ho.2.2.1 ho.2.2.2
  rw [netD] at hs6
  have hn1 : ((r.peers.length : Int) != (r.peers.length : Int)) = false := by simp
  refine spec_of T_ok Try.func10 (by dsimp only [Try.f10]) rfl rfl (by simp) fun w F => ?_
  repeat' (first | (with_reducible refine aw_seq ?_) | ((with_reducible refine two_intro ?_ ?_) <;> intro h <;> first | contradiction | (((guard_hyp h : false = false; clear h)))) | (with_reducible refine aw_block ?_) | ((first | ((with_reducible refine aw_regionA T_ok ?_ ?_); kernel_rfl) | ((with_reducible refine callK_intro (hs6) ?_ ?_ ?_); (focus (with_unfolding_all rfl)); kernel_rfl) | (with_reducible refine aw_skip ?_) | ((with_reducible refine aw_condM ?_ ?_); kernel_rfl) ); simp only [↓avP, avQ, avR, forall_const, implies_true, Nat.reduceEqDiff, Nat.reduceAdd, Nat.reduceLeDiff, reduceCtorEq, avS, roomD_B, ty_29, ty_31, ty_25, hn1]; try simp (disch := omega) only [av_w, av_t1, av_tp, Int.toNat_natCast]))
  refine aw_loopI (fun k : Nat => ⟨[(2, .ptr 0 0), (3, .ptr 1 0), (5, vI k)], [(1, .cells 31 (dV (roomD r))), (0, .cells 31 (dV (roomD r)))], 2⟩) (fun k => k ≤ r.peers.length) (fun k => r.peers.length - k) 0 (Nat.zero_le _) (wk_of [(0, some 0), (1, some 1)] rfl rfl ?_ ?_) ?_
  · simp only [wkA, reduceIte, Nat.reduceEqDiff]
    (repeat' (first | rfl | exact subVs_d _ _))
  · simp only [wkA, reduceIte, Nat.reduceEqDiff]
    (repeat' (first | rfl | exact subVs_d _ _))
  intro k hk
  rcases Nat.lt_or_ge k r.peers.length with hlt | hge
  · have hd2 := ltd hlt
    have hg := getD_peers r.peers k hlt
    have hm : r.peers.getD k [] ∈ r.peers := mem_getD hlt
    have hs := q54sameHands_spec (r.peers.getD k []) (ho.2.1 _ hm).1
    repeat' (first | (with_reducible refine aw_seq ?_) | ((with_reducible refine two_intro ?_ ?_) <;> intro h <;> first | contradiction | ((first | (guard_hyp h : true = true; clear h) | (guard_hyp h : false = false; clear h)))) | ((with_reducible refine And.intro ?_ ?_); (focus (omega))) | (with_reducible refine aw_block ?_) | ((first | ((with_reducible refine aw_regionA T_ok ?_ ?_); kernel_rfl) | ((with_reducible refine aw_drawnA T_ok ?_ ?_ ?_ ?_); kernel_rfl; kernel_rfl; (focus (decide +kernel))) | ((with_reducible refine callK_intro (hs) ?_ ?_ ?_); (focus (with_unfolding_all rfl)); kernel_rfl) | (with_reducible refine aw_skip ?_) | ((with_reducible refine aw_condM ?_ ?_); kernel_rfl) ); simp only [↓avP, avQ, avR, forall_const, implies_true, Nat.reduceEqDiff, Nat.reduceAdd, reduceCtorEq, roomD_B, ty_32, ty_31, ty_25, ty_55, hd2, hg]; try simp (disch := omega) only [av_w, Int.toNat_natCast]))
    refine ⟨k + 1, by omega, by dsimp only; omega, wk_of [(0, some 0), (1, some 1)] rfl rfl ?_ ?_⟩
    · simp only [wkA, reduceIte, Nat.reduceEqDiff]
      (repeat' (first | rfl | exact subVs_d _ _))
    · simp only [wkA, reduceIte, Nat.reduceEqDiff]
      (repeat' (first | rfl | exact subVs_d _ _))
  · obtain rfl : k = r.peers.length := by omega
    have hd2 := ged (Nat.le_refl r.peers.length)
    repeat' (first | (with_reducible refine aw_seq ?_) | ((with_reducible refine two_intro ?_ ?_) <;> intro h <;> first | contradiction | (((guard_hyp h : false = false; clear h)))) | (with_reducible refine aw_block ?_) | ((first | ((with_reducible refine aw_regionA T_ok ?_ ?_); kernel_rfl) | (with_reducible refine aw_exit ?_) | ((with_reducible refine aw_condM ?_ ?_); kernel_rfl) | (with_reducible refine aw_ret ?_) ); simp only [↓avP, avQ, avR, forall_const, implies_true, Nat.reduceEqDiff, reduceCtorEq, avS, roomD_B, netD_B, ty_32, ty_29, ty_26, ty_31, ty_25, hd2]; try simp (disch := omega) only [av_w, av_t1, av_tp, Int.toNat_natCast]))
    exact Sub.refl _
end Go.Proofs.Ythidfoohhhkobaa


namespace Go.Proofs.Ythidfoohhhkobaa
set_option linter.unusedSimpArgs false
set_option linter.unusedVariables false
open Go.RowKit
set_option maxRecDepth 100000
set_option maxHeartbeats 4000000
theorem hd_b0 (h : Hd) (x y z : Int) : splice (dV (handD h)) 0 [vI x, vI y, vI z] = dV (handD { h with line := x, at_ := y, arr := z }) := rfl
theorem ghas_spec (l : List Hd) (h : Hd) (hl : l.length ≤ 140737488351232) : Spec Try.prog 13 [.one (handsD l), .agg (handD h)] (.r1 (aB (decide (h ∈ l)))) := by
  refine spec_of T_ok Try.func13 (by dsimp only [Try.f13]) rfl rfl (by simp) fun w F => ?_
  repeat' (first | (with_reducible refine aw_seq ?_) | ((with_reducible refine And.intro ?_ ?_); (focus (rfl))) | (with_reducible refine aw_block ?_) | ((first | ((with_reducible refine aw_regionA T_ok ?_ ?_); kernel_rfl) | (with_reducible refine aw_ret ?_) ); simp only [↓avP, avQ, avR, forall_const, implies_true, Nat.reduceEqDiff, Nat.reduceAdd, Nat.reduceLeDiff, reduceCtorEq, avS, ↓hd_b0, ↓hd_t4, ↓hd_t5, ↓hd_s6, ↓hd_s39, handS, hd_dr, ↓zH_one, ↓zH_cells, zH_map, ty_H, ty_40, ty_32]; try simp (disch := omega) only [av_w, av_t1, av_tp, Int.toNat_natCast]))
  refine aw_loopI (fun k : Nat => ⟨[(3, .ptr 0 0), (7, .d (handsD l)), (8, vI l.length), (9, vI k)], [(0, .cells 46 (dV (handD h)))], 1⟩) (fun k => k ≤ l.length ∧ ∀ i, i < k → l.getD i default ≠ h) (fun k => l.length - k) 0 ⟨Nat.zero_le _, fun i hi => absurd hi (Nat.not_lt_zero i)⟩ (wk_of [(0, some 0)] rfl rfl ?_ ?_) ?_
  · simp only [wkA, reduceIte, Nat.reduceEqDiff]
    (repeat' (first | rfl | exact subVs_d _ _))
  · simp only [wkA, reduceIte, Nat.reduceEqDiff]
    (repeat' (first | rfl | exact subVs_d _ _))
  rintro k ⟨hk, h0⟩
  rcases Nat.lt_or_ge k l.length with hlt | hge
  · have hd2 := ltd hlt
    have hm : l.getD k default ∈ l := mem_getD hlt
    by_cases he : l.getD k default = h
    · have hde : decide (l.getD k default = h) = true := decide_eq_true he
      repeat' (first | (with_reducible refine aw_seq ?_) | ((with_reducible refine two_intro ?_ ?_) <;> intro h <;> first | contradiction | ((first | (guard_hyp h : true = true; clear h) | (guard_hyp h : false = false; clear h)))) | ((with_reducible refine And.intro ?_ ?_); (focus (first | exact eqHand | omega))) | (with_reducible refine aw_block ?_) | ((first | ((with_reducible refine aw_regionA T_ok ?_ ?_); kernel_rfl) | (with_reducible refine aw_skip ?_) | ((with_reducible refine aw_condM ?_ ?_); kernel_rfl) | (with_reducible refine aw_ret ?_) ); simp only [↓avP, avQ, avR, forall_const, implies_true, Nat.reduceEqDiff, Nat.reduceAdd, Nat.reduceLeDiff, reduceCtorEq, handS, hd_dr, ↓zH_one, zH_map, ty_H, ty_32, hd2, hde]; try simp (disch := omega) only [av_w, av_t1, av_tp, Int.toNat_natCast]))
      exact Sub.of_eq (congrArg aB (decide_eq_true (he ▸ hm)).symm)
    · have hde : decide (l.getD k default = h) = false := decide_eq_false he
      repeat' (first | (with_reducible refine aw_seq ?_) | ((with_reducible refine two_intro ?_ ?_) <;> intro h <;> first | contradiction | ((first | (guard_hyp h : true = true; clear h) | (guard_hyp h : false = false; clear h)))) | ((with_reducible refine And.intro ?_ ?_); (focus (first | exact eqHand | omega))) | (with_reducible refine aw_block ?_) | ((first | ((with_reducible refine aw_regionA T_ok ?_ ?_); kernel_rfl) | (with_reducible refine aw_skip ?_) | ((with_reducible refine aw_condM ?_ ?_); kernel_rfl) | (with_reducible refine aw_ret ?_) ); simp only [↓avP, avQ, avR, forall_const, implies_true, Nat.reduceEqDiff, Nat.reduceAdd, Nat.reduceLeDiff, reduceCtorEq, handS, hd_dr, ↓zH_one, zH_map, ty_H, ty_32, hd2, hde]; try simp (disch := omega) only [av_w, av_t1, av_tp, Int.toNat_natCast]))
      refine ⟨k + 1, ⟨by omega, fun i hi => ?_⟩, by dsimp only; omega, wk_of [(0, some 0)] rfl rfl ?_ ?_⟩
      · rcases Nat.lt_succ_iff_lt_or_eq.1 hi with h' | rfl
        · exact h0 i h'
        · exact he
      · simp only [wkA, reduceIte, Nat.reduceEqDiff]
        (repeat' (first | rfl | exact subVs_d _ _))
      · simp only [wkA, reduceIte, Nat.reduceEqDiff]
        (repeat' (first | rfl | exact subVs_d _ _))
  · obtain rfl : k = l.length := by omega
    have hd2 := ged (Nat.le_refl l.length)
    repeat' (first | (with_reducible refine aw_seq ?_) | ((with_reducible refine two_intro ?_ ?_) <;> intro h <;> first | contradiction | (((guard_hyp h : false = false; clear h)))) | ((first | ((with_reducible refine aw_regionA T_ok ?_ ?_); kernel_rfl) | (with_reducible refine aw_exit ?_) | ((with_reducible refine aw_condM ?_ ?_); kernel_rfl) | (with_reducible refine aw_ret ?_) ); simp only [↓avP, avQ, avR, forall_const, implies_true, Nat.reduceEqDiff, avS, hd2]; try simp (disch := omega) only [av_w, av_t1, av_tp, Int.toNat_natCast]))
    refine Sub.of_eq (congrArg aB (decide_eq_false fun hm => ?_).symm)
    obtain ⟨i, hi, e⟩ := List.mem_iff_getElem.1 hm
    exact h0 i hi (by rw [getD_atH hi]; exact e)
def exH (n : Int) : Hd := { (default : Hd) with line := 1, at_ := 5, arr := 9, frm := 3, to_ := 4, many := n, time := 7 }
theorem ghand_spec (n : Int) : Spec Try.prog 17 [aI n] (.r1 (.agg (handD (exH n)))) := by
  refine spec_of T_ok Try.func17 (by dsimp only [Try.f17]) rfl rfl (by simp) fun w F => ?_
  repeat' (first | (with_reducible refine aw_seq ?_) | ((with_reducible refine And.intro ?_ ?_); (focus (rfl))) | (with_reducible refine aw_block ?_) | ((first | ((with_reducible refine aw_regionA T_ok ?_ ?_); kernel_rfl) | (with_reducible refine aw_ret ?_) ); simp only [↓avP, avQ, avR, forall_const, implies_true, Nat.reduceEqDiff, Nat.reduceAdd, Nat.reduceLeDiff, reduceCtorEq, avS, ↓hd_b0, ↓hd_t4, ↓hd_t5, ↓hd_s6, ↓hd_s39, handS, hd_dr, ↓zH_one, ↓zH_cells, zH_map, ty_H, ty_40, ty_32]; try simp (disch := omega) only [av_w, av_t1, av_tp, Int.toNat_natCast]))
  exact Sub.refl _
theorem exH_form : fH (exH 2) := ⟨by decide +kernel, by
  have z : ∀ n : Int, 0 ≤ n → n ≤ 9 → Cd.i64R n := fun n a b => ⟨by omega, by omega⟩
  exact ⟨z 1 (by omega) (by omega), z 5 (by omega) (by omega), z 9 (by omega) (by omega), z 0 (by omega) (by omega), z 3 (by omega) (by omega), z 4 (by omega) (by omega), z 2 (by omega) (by omega), z 7 (by omega) (by omega), z 0 (by omega) (by omega), z 0 (by omega) (by omega)⟩⟩
abbrev two : RoomP := ⟨[[], []], net0⟩
abbrev exX (h : Hd) : RoomP := ⟨[[], [h]], ⟨[⟨1, 0, msg h⟩], []⟩⟩
abbrev exY (h : Hd) : RoomP := ⟨[[h], [h]], net0⟩
theorem new2 : newR 2 = two := by unfold newR; rw [if_neg (by omega)]; rfl
theorem two_inv (T : List Hd) (hT : ∀ x ∈ T, fH x) : RInv 2 T two := by
  have := (RInv.nw (n := 2) (by omega) (by omega)).mono (T' := T) (fun x hx => by cases hx) hT
  rw [new2] at this
  exact this
theorem do_x {h : Hd} (hh : fH h) : doE two ⟨1, 1, 0, 0, h⟩ = 0 ∧ doR two ⟨1, 1, 0, 0, h⟩ = exX h := by
  have hI := two_inv [] (by simp)
  have hE : doE two ⟨1, 1, 0, 0, h⟩ = 0 := by
    rw [hI.do ⟨by simp, by simp⟩]
    simp [actE, inR, hh.1]
  refine ⟨hE, ?_⟩
  rw [doR, if_pos hE, actR, if_pos rfl]
  rfl
theorem do_z : doE two ⟨1, 0, 0, 0, default⟩ = 480 ∧ doR two ⟨1, 0, 0, 0, default⟩ = room0 := by
  have hI := two_inv [] (by simp)
  have hf : formB (default : Hd) = false := by decide +kernel
  have hE : doE two ⟨1, 0, 0, 0, default⟩ = 480 := by
    rw [hI.do ⟨by simp, by simp⟩]
    simp [actE, inR, hf]
  exact ⟨hE, by rw [doR, hE]; rfl⟩
theorem do_i : doE two (delA 0) = 1 ∧ doR two (delA 0) = room0 := by
  have hI := two_inv [] (by simp)
  have hE : doE two (delA 0) = 1 := by
    rw [hI.do ⟨by simp, by simp⟩]
    have := hI.atE (i := 0) ⟨by simp, by simp⟩
    unfold actE
    rw [if_neg (show ¬ (3 : Int) = 1 by decide), if_neg (show ¬ (3 : Int) = 2 by decide), if_pos (.inl rfl)]
    rw [this]; rfl
  exact ⟨hE, by rw [doR, hE]; rfl⟩
theorem ex_inv {h : Hd} (hh : fH h) : RInv 2 [h] (exX h) := by
  have hT : ∀ x ∈ [h], fH x := fun x hx => by rw [List.mem_singleton.1 hx]; exact hh
  refine ⟨rfl, by omega, by omega, hT, fun l hl => ?_, fun l hl x hx => ?_, fun p hp => ?_, rfl⟩
  · simp only [List.mem_cons, List.not_mem_nil, or_false] at hl
    rcases hl with rfl | rfl
    · exact List.Pairwise.nil
    · exact List.pairwise_singleton _ _
  · simp only [List.mem_cons, List.not_mem_nil, or_false] at hl
    rcases hl with rfl | rfl
    · cases hx
    · exact hx
  · rw [List.mem_singleton.1 hp]
    exact ⟨h, by simp, rfl, by simp, by simp, by simp, by simp, by simp⟩
theorem do_y {h : Hd} (hh : fH h) : doE (exX h) (delA 0) = 0 ∧ doR (exX h) (delA 0) = exY h := by
  obtain ⟨h0, y, y1, p, p1, p2, p3, p4, e⟩ := (ex_inv hh).del ⟨by simp, by simp⟩ (i := 0) (by simp)
  refine ⟨h0, ?_⟩
  have hp : p = ⟨1, 0, msg h⟩ := by simpa using p1.symm
  have hy : y = h := by simpa using y1
  rw [show ((0 : Nat) : Int) = 0 from rfl] at e
  rw [e, hp, hy]
  rfl
theorem gsane_spec : Spec Try.prog 7 [] (.r1 (aB true)) := by
  have hh := exH_form
  have hnew := gnew_spec 2
  have hnew0 := gnew_spec 0
  have he2 : newE 2 = 0 := rfl
  have he0 : newE 0 = 1 := rfl
  have hr0 : newR 0 = room0 := rfl
  rw [new2, he2] at hnew
  rw [hr0, he0] at hnew0
  have hhd := ghand_spec 2
  obtain ⟨x1, x2⟩ := do_x hh
  obtain ⟨z1, z2⟩ := do_z
  obtain ⟨i1, i2⟩ := do_i
  obtain ⟨y1, y2⟩ := do_y hh
  have k1 : Cd.i64R 1 := ⟨by decide, by decide⟩
  have k3 : Cd.i64R 3 := ⟨by decide, by decide⟩
  have hTI := two_inv [] (by simp)
  have hXI := ex_inv hh
  have dx := gdo_spec two ⟨1, 1, 0, 0, exH 2⟩ (hTI.ok (by simp) (by simp)) (fun _ => hTI.few (by simp) (by simp)) hh.2 k1
  have dz := gdo_spec two ⟨1, 0, 0, 0, default⟩ (hTI.ok (by simp) (by simp)) (fun _ => hTI.few (by simp) (by simp)) hOk_zero k1
  have di := gdo_spec two (delA 0) (hTI.ok (by simp) (by simp)) (fun _ => hTI.few (by simp) (by simp)) hOk_zero k3
  have dy := gdo_spec (exX (exH 2)) (delA 0) (hXI.ok (by simp) (by simp)) (fun _ => hXI.few (by simp) (by simp)) hOk_zero k3
  rw [x1, x2] at dx
  rw [z1, z2] at dz
  rw [i1, i2] at di
  rw [y1, y2] at dy
  have hYI : RInv 2 [exH 2] (exY (exH 2)) := by
    obtain ⟨_, h1, _, _⟩ := hXI.del_ok ⟨by simp, by simp⟩ (i := 0) (by simp)
    rw [show ((0 : Nat) : Int) = 0 from rfl, y2] at h1
    exact h1
  have c0 := gcheck_spec room0 ⟨by simp, by simp, ⟨by simp, by simp⟩, by simp⟩
  have cy := gcheck_spec (exY (exH 2)) (hYI.ok (by simp) (by simp))
  rw [show roomChk room0 = 540 from rfl] at c0
  rw [hYI.chk (by simp) (by simp)] at cy
  have hms := q54message_spec (exH 2) hh.2
  have hsh := q54sameHands_spec [exH 2] (by simp)
  have c00 := spec_sub (xs := [.agg [.c (.slice none 0 0), .c (.slice none 0 0), .c (.slice none 0 0)]]) c0 ⟨sub_room0, trivial⟩
  have q1 : (((1 : Nat) : Int) == 1) = true := rfl
  have q0 : (((0 : Nat) : Int) == 0) = true := rfl
  have q2 : (((2 : Nat) : Int) != 2) = false := rfl
  have q3 : ((0 : Int) != 0) = false := rfl
  have q4 : ((1 : Int) != 1) = false := rfl
  have q5 : ((480 : Int) != 480) = false := rfl
  have q6 : ((540 : Int) == 540) = true := rfl
  have q7 : ((0 : Int) == 0) = true := rfl
  have q8 : (msg (exH 2) == msg (exH 2)) = true := by simp
  generalize exH 2 = h at *
  refine spec_of T_ok Try.func7 (by dsimp only [Try.f7]) rfl rfl (by simp) fun w F => ?_
  repeat' (first | (with_reducible refine aw_seq ?_) | ((with_reducible refine two_intro ?_ ?_) <;> intro h <;> first | contradiction | (((guard_hyp h : false = false; clear h)))) | ((with_reducible refine And.intro ?_ ?_); (focus (first | omega | rfl | decide))) | ((first | ((with_reducible refine aw_regionA T_ok ?_ ?_); kernel_rfl) | ((with_reducible refine aw_drawnEA (id := 3) [(8, 7)] [] T_ok ?_ ?_ ?_ ?_ ?_); kernel_rfl; kernel_rfl; (focus (decide +kernel)); kernel_rfl) | ((with_reducible refine aw_drawnA T_ok ?_ ?_ ?_ ?_); kernel_rfl; kernel_rfl; (focus (decide +kernel))) | ((with_reducible refine callI_spec (hnew) ?_ ?_ ?_ ?_); (focus (with_unfolding_all rfl)); kernel_rfl; kernel_rfl) | ((with_reducible refine callI_spec (hnew0) ?_ ?_ ?_ ?_); (focus (with_unfolding_all rfl)); kernel_rfl; kernel_rfl) | ((with_reducible refine callK_intro (hhd) ?_ ?_ ?_); (focus (with_unfolding_all rfl)); kernel_rfl) | ((with_reducible refine callI_spec (hhd) ?_ ?_ ?_ ?_); (focus (with_unfolding_all rfl)); kernel_rfl; kernel_rfl) | ((with_reducible refine callK_intro (dx) ?_ ?_ ?_); (focus (((repeat' (first | exact ta_n | refine ta_a ?_)); done))); kernel_rfl) | ((with_reducible refine callI_spec (dz) ?_ ?_ ?_ ?_); (focus (with_unfolding_all rfl)); kernel_rfl; kernel_rfl) | ((with_reducible refine callI_spec (di) ?_ ?_ ?_ ?_); (focus (with_unfolding_all rfl)); kernel_rfl; kernel_rfl) | ((with_reducible refine callI_spec (dy) ?_ ?_ ?_ ?_); (focus (with_unfolding_all rfl)); kernel_rfl; kernel_rfl) | ((with_reducible refine callK_intro (c00) ?_ ?_ ?_); (focus (with_unfolding_all rfl)); kernel_rfl) | ((with_reducible refine callK_intro (cy) ?_ ?_ ?_); (focus (with_unfolding_all rfl)); kernel_rfl) | ((with_reducible refine callK_intro (hms) ?_ ?_ ?_); (focus (((repeat' (first | exact ta_n | refine ta_a ?_)); done))); kernel_rfl) | ((with_reducible refine callK_intro (hsh) ?_ ?_ ?_); (focus (with_unfolding_all rfl)); kernel_rfl) | (with_reducible refine fin2_intro ?_) | (with_reducible refine aw_skip ?_) | ((with_reducible refine aw_condM ?_ ?_); kernel_rfl) | (with_reducible refine aw_ret ?_) ); simp only [↓avP, avQ, avR, forall_const, implies_true, Nat.reduceEqDiff, Nat.reduceAdd, Int.reduceToNat, Nat.reduceLeDiff, Nat.reduceLT, reduceCtorEq, ↓earlyL.eq_def, avS, peer_h, List.getD_cons_zero, List.getD_cons_succ, ↓ac_s0, ↓ac_s1, ↓ac_s4, dA_p, dA_t, dA_a, dA_h, u8s_by, strOf_by, str_tl, roomD_B, pkD_B, actS, ↓zA_one, ↓zA_cells, ty_A, handS, ↓zH_D, ty_H, ty_5, ty_9, ty_31, ty_25, ty_55, ty_32, ty_29, ty_26, ty_63, ty_23, q1, q0, q2, q3, q4, q5]; try simp (disch := omega) only [av_w, av_t1, av_tp, Int.toNat_natCast]))
  all_goals exact Sub.refl _
end Go.Proofs.Ythidfoohhhkobaa


namespace Go.Proofs.Ythidfoohhhkobaa
set_option linter.unusedSimpArgs false
set_option linter.unusedVariables false
open Go.RowKit
set_option maxRecDepth 100000
theorem nil_drained {n : Nat} {T : List Hd} {r : RoomP} {k : Nat} (h : Spec Try.prog 9 [aRoom r, .one (bsD [])] (.rt [aRoom (drainN [] r k), aB true])) : Spec Try.prog 9 [aRoom r, .one (.c (.slice none 0 0))] (.rt [aRoom (drainN [] r k), aB true]) :=
  spec_sub h ⟨Sub.refl _, Sub.nil _ _, trivial⟩
theorem mod4 {u : Int} (hu : 0 ≤ u ∧ u ≤ 255) : ∃ m : Int, IntKind.i64.wrap u = u ∧ u.tmod 4 = m ∧ 0 ≤ m ∧ m ≤ 3 ∧ IntKind.i64.wrap (1 + m) = 1 + m := by
  have h1 : u.tmod 4 = u % 4 := Int.tmod_eq_emod_of_nonneg hu.1
  exact ⟨u % 4, by rw [IntKind.wrap_i64]; omega, h1, by omega, by omega, by rw [IntKind.wrap_i64]; omega⟩
theorem wrap_ab {a b : Nat} (ha : a ≤ 4000) (hb : b ≤ 4) : IntKind.i64.wrap (IntKind.i64.wrap ((a : Int) + (b : Int)) - 1) = (a : Int) + (b : Int) - 1 := by
  have h1 : IntKind.i64.wrap ((a : Int) + (b : Int)) = (a : Int) + (b : Int) := by rw [IntKind.wrap_i64]; omega
  rw [h1, IntKind.wrap_i64]; omega
theorem bne_f {a b : Int} (h : a = b) : (a != b) = false := by subst h; exact bne_self_eq_false a
theorem wrap_add {a b : Nat} (ha : a ≤ 4000) (hb : b ≤ 4000) : IntKind.i64.wrap ((a : Int) + (b : Int)) = (a : Int) + (b : Int) := by rw [IntKind.wrap_i64]; omega
end Go.Proofs.Ythidfoohhhkobaa

