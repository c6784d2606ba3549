import Derived.Test.YtncihbmehbiekaaRB12
import Derived.Test.YtncihbmehbiekaaRB19
import Derived.Test.YtncihbmehbiekaaRB7
import Derived.Test.YtncihbmehbiekaaRB14
namespace Go.Proofs.Ytncihbmehbiekaa
set_option linter.unusedSimpArgs false
set_option linter.unusedVariables false
open Go.ChangeShapes Go.WideShapes Go.ChangeAt Go.RowKit
def OkI (l : List Int) : Prop := l.length ≤ 140737488351232 ∧ ∀ x ∈ l, -9223372036854775808 ≤ x ∧ x ≤ 9223372036854775807
theorem wf_int64 {n : Int} (h : (Lit.int .i64 n).wf = true) : -9223372036854775808 ≤ n ∧ n ≤ 9223372036854775807 := by
  exact wf_i64 h
theorem opens_int1 : Opens Try.prog 3 (RE intD (fun n => -9223372036854775808 ≤ n ∧ n ≤ 9223372036854775807)) :=
  ore_map (f := fun n : Int => n) (ore_int Try.underlying3) (by intro x; rfl) (fun x h => wf_int64 h)
theorem opens_ints : Opens Try.prog 27 (RE (fun l : List Int => [.sl 1 (intD 0) (l.map intD)]) OkI) :=
  ore_slice (sz := 1) (intD 0) (by intro x; rfl) opens_int1 Try.underlying27 (by kernel_rfl) (by decide) (Nat.le_of_ble_eq_true (by kernel_rfl))
theorem opens_intss : Opens Try.prog 31 (RE (fun l : List (List Int) => [.sl 1 [.sl 1 (intD 0) []] (l.map fun x => [.sl 1 (intD 0) (x.map intD)])]) (fun l => l.length ≤ 140737488351232 ∧ ∀ x ∈ l, OkI x)) :=
  ore_slice (sz := 1) [.sl 1 (intD 0) []] (by intro x; rfl) opens_ints Try.underlying31 (by kernel_rfl) (by decide) (Nat.le_of_ble_eq_true (by kernel_rfl))
theorem opens_lot : Opens Try.prog 40 (RE lotD OkL) :=
  ore_map (f := fun x : List Int × Bool × List Int × Unit => (⟨x.1, x.2.1, x.2.2.1⟩ : LotP))
    (opens_struct Try.underlying40 (by kernel_rfl)
      (oreL_1 opens_ints (by intro x; rfl) (by kernel_rfl) rfl (by simp) (oreL_1 (ore_bool Try.underlying4) (by intro x; rfl) (by kernel_rfl) rfl (by simp)
      (oreL_1 opens_ints (by intro x; rfl) (by kernel_rfl) rfl (by simp) oreL_nil))))
    (by intro x; rfl) (by rintro x ⟨h1, h2, h3, _⟩; exact ⟨h1.2, h3.2, h1.1, h3.1⟩)
theorem opens_lots : Opens Try.prog 22 (RE (fun l : List LotP => [.sl 3 (lotD default) (l.map lotD)]) (fun l => l.length ≤ 140737488351232 ∧ ∀ x ∈ l, OkL x)) :=
  ore_slice (sz := 3) (lotD default) (by intro x; rfl) opens_lot Try.underlying22 (by kernel_rfl) (by decide) (Nat.le_of_ble_eq_true (by kernel_rfl))
theorem opens_flow : Opens Try.prog 24 (RE flowD OkF) :=
  ore_map (f := fun x : Int × List LotP × Unit => (⟨x.1, x.2.1⟩ : FlowP))
    (opens_struct Try.underlying24 (by kernel_rfl)
      (oreL_1 (ore_int Try.underlying3) (by intro x; rfl) (by kernel_rfl) rfl (by simp) (oreL_1 opens_lots (by intro x; rfl) (by kernel_rfl) rfl (by simp) oreL_nil)))
    (by intro x; rfl) (by rintro x ⟨h1, h2, _⟩; exact ⟨wf_int64 h1, h2.1, h2.2⟩)
end Go.Proofs.Ytncihbmehbiekaa


namespace Go.Proofs.Ytncihbmehbiekaa
set_option linter.unusedSimpArgs false
set_option linter.unusedVariables false
open Go.RowKit
set_option maxRecDepth 100000
set_option maxHeartbeats 4000000
theorem endS_len {f : FlowP} (hc : checkF f = 0) (s : Int) : (endS f s).length ≤ 50000 := by
  have := endsR_le f
  rw [endsR, if_pos hc] at this
  exact Nat.le_trans (List.length_filter_le _ _) this
end Go.Proofs.Ytncihbmehbiekaa


namespace Go.Proofs.Ytncihbmehbiekaa
set_option linter.unusedSimpArgs false
set_option linter.unusedVariables false
open Go.RowKit
set_option maxRecDepth 100000
set_option maxHeartbeats 4000000
theorem validW_check {f : FlowP} (h : validW f = true) : checkF f = 0 ∧ f.senders ≤ 12 ∧ f.lots.length ≤ 12 := by
  unfold validW fewW at h
  simp only [Bool.and_eq_true, Bool.or_eq_true, decide_eq_true_eq, beq_iff_eq] at h
  have := checkF_zero h.2
  exact ⟨h.2, by rcases h.1.2 with h | h <;> omega, h.1.1.2⟩
end Go.Proofs.Ytncihbmehbiekaa


namespace Go.Proofs.Ytncihbmehbiekaa
set_option linter.unusedSimpArgs false
set_option linter.unusedVariables false
open Go.RowKit
set_option maxRecDepth 100000
set_option maxHeartbeats 4000000
/-- the flow's Map is known -/
theorem map_known {g : FlowP} (hg : OkF g) (hc : checkF g = 0) (hk : knownF g = true) {N : Nat} (hN : g.senders = N) : Spec Try.prog 23 [.agg (flowD g)] (.rt [aIs (mapAt g N), aI 0]) := by
  have h := fmap_spec g hg
  have e : errM g = 0 := by rw [errM, if_neg (by simpa using hc), if_pos hk]
  rw [e, mapR, if_pos e, hN] at h
  exact h
theorem mapAt_at {g : FlowP} {N s : Nat} (h : s < N) : (mapAt g N).getD s 0 = followK g g.lots.length s := by
  unfold mapAt
  rw [List.getD, List.getElem?_map, List.getElem?_range h]; rfl
theorem ends_ok {f : FlowP} (hf : OkF f) (hc : checkF f = 0) {N s : Nat} (hN : f.senders = N) (h : s < N) : Spec Try.prog 12 [.agg (flowD f), aI s] (.rt [aIs (endS f s), aI 0]) := by
  have e : errE f s = 0 := by rw [errE, if_neg (by simpa using hc), if_neg (by omega)]
  have h1 := wends_spec f (s : Int) hf
  rwa [endR, if_pos e, e] at h1
theorem senders_ok {f : FlowP} (hf : OkF f) (hc : checkF f = 0) {N : Nat} (hN : f.senders = N) {t : Int} (ht : t ∈ endsF f) : Spec Try.prog 14 [.agg (flowD f), aI t] (.rt [aIs (sndS f t N), aI 0]) := by
  have h := wsenders_spec f t hf
  have e : errS f t = 0 := by rw [errS, if_neg (by simpa using hc), if_pos ht]
  rwa [sndR, if_pos e, e, show f.senders.toNat = N by omega] at h
theorem wlaw4_spec (f : FlowP) (ps : List Nat) (hf : OkF f) (hp : ∀ p ∈ ps, p < 256) (hpl : ps.length ≤ 140737488351232) : Spec Try.prog 6 [.agg (flowD f), .one (.sl 1 (u8D 0) (ps.map u8D))] (.r1 (aB true)) := by
  refine spec_of T_ok Try.func6 (by dsimp only [Try.f6]) rfl rfl (by simp) fun w F => ?_
  have hV := wvalid_spec f hf
  cases hv : validW f with
  | false =>
    rw [hv] at hV
    repeat' (first
      | (with_reducible refine aw_seq ?_)
      | ((with_reducible refine twoG_intro ?_ ?_) <;> intro hTw <;> first | (exact Bool.noConfusion hTw) | ((try simp only [hTw, Bool.not_true, Bool.not_false, Bool.true_and, Bool.false_and, Bool.and_true, Bool.and_false, Bool.true_or, Bool.false_or, Bool.or_true, Bool.or_false]); (first | (guard_hyp hTw : true = true; clear hTw) | (guard_hyp hTw : false = false; clear hTw) | (revert hTw; intro _))))
      | ((with_reducible refine two_intro ?_ ?_) <;> intro hTw <;> first | (exact Bool.noConfusion hTw) | ((first | (guard_hyp hTw : true = true; clear hTw) | (guard_hyp hTw : false = false; clear hTw) | (revert hTw; intro _))))
      | ((with_reducible refine And.intro ?_ ?_); (focus (first | omega | rfl | decide | grind)))
      | (with_reducible refine aw_block ?_)
      | (with_reducible refine aw_scope ?_)
      | ((first
          | ((with_reducible refine aw_regionA T_ok ?_ ?_); (focus kernel_rfl))
          | ((with_reducible refine aw_drawnA T_ok ?_ ?_ ?_ ?_); (focus kernel_rfl); (focus kernel_rfl); (focus (decide +kernel)))
          | ((with_reducible refine aw_drawnF T_ok ?_ ?_ ?_ ?_); (focus kernel_rfl); (focus kernel_rfl); (focus (decide +kernel)))
          | ((with_reducible refine callK_intro (wsane_spec) (by with_unfolding_all rfl) ?_ ?_); (focus kernel_rfl))
          | ((with_reducible refine callI_spec (wsane_spec) (by with_unfolding_all rfl) ?_ ?_ ?_); (focus kernel_rfl); (focus kernel_rfl))
          | ((with_reducible refine callK_intro (hV) (by with_unfolding_all rfl) ?_ ?_); (focus kernel_rfl))
          | ((with_reducible refine callI_spec (hV) (by with_unfolding_all rfl) ?_ ?_ ?_); (focus kernel_rfl); (focus kernel_rfl))
          | (with_reducible refine aw_label ?_)
          | ((with_reducible refine aw_rfM ?_ ?_); (focus kernel_rfl))
          | (with_reducible refine aw_skip ?_)
          | (with_reducible refine aw_exit ?_)
          | ((with_reducible refine aw_condM ?_ ?_); (focus kernel_rfl))
          | (with_reducible refine aw_ret ?_)
        ); simp only [↓avP, avQ, if_true, if_false, forall_const, beq_self_eq_true, eq_self, ne_eq, implies_true, reduceIte, Nat.reduceEqDiff, Nat.reduceAdd, Nat.reduceSub, Int.reduceToNat, Nat.reduceLeDiff, Nat.reduceLT, reduceCtorEq, Int.reduceEq, retQ, retL, resV, RetV, RetOk, SubL, intD_B, u8D_B, lotD_B, flowD_B, snocI, snocL, ty_3, ty_5, ty_42, ty_27, ty_4, ty_24, ty_40, ty_22, ty_31, issD_get]; try simp (disch := omega) only [av_w, av_t1, av_tp, Int.toNat_natCast]))
    all_goals exact Sub.refl _
  | true =>
    rw [hv] at hV
    have hc := (validW_check hv).1
    obtain ⟨z1, z2, z3, z4, z5⟩ := checkF_zero hc
    obtain ⟨N, hN⟩ : ∃ N : Nat, f.senders = N := ⟨f.senders.toNat, by omega⟩
    have hW := wway_spec f ps hf hc hp hpl
    have hfin := wayF_fin f ps
    have hM := map_known (okF_way hf ps) (hfin.check hc) (wayF_known f ps) (N := N) hN
    have hEl : (mapAt (wayF f ps) N).length = N := mapAt_len _ _
    have hat := fun {s : Nat} (h : s < N) => mapAt_at (g := wayF f ps) h
    have hin : ∀ {s : Nat}, s < N → (mapAt (wayF f ps) N).getD s 0 ∈ endS f s := fun {s} h => by
      rw [hat h]
      exact hfin.way_end hc (wayF_known f ps) s (by omega)
    obtain ⟨G, hG⟩ : ∃ G, G = wayF f ps := ⟨_, rfl⟩
    rw [← hG] at hW hM hEl hin
    obtain ⟨E, hE⟩ : ∃ E, E = mapAt G N := ⟨_, rfl⟩
    rw [← hE] at hM hEl hin
    have g1 : ((E.length : Int) != f.senders) = false := by simp; omega
    repeat' (first
      | (with_reducible refine aw_seq ?_)
      | ((with_reducible refine twoG_intro ?_ ?_) <;> intro hTw <;> first | (exact Bool.noConfusion hTw) | ((try simp only [hTw, Bool.not_true, Bool.not_false, Bool.true_and, Bool.false_and, Bool.and_true, Bool.and_false, Bool.true_or, Bool.false_or, Bool.or_true, Bool.or_false]); (first | (guard_hyp hTw : true = true; clear hTw) | (guard_hyp hTw : false = false; clear hTw) | (revert hTw; intro _))))
      | ((with_reducible refine two_intro ?_ ?_) <;> intro hTw <;> first | (exact Bool.noConfusion hTw) | ((first | (guard_hyp hTw : true = true; clear hTw) | (guard_hyp hTw : false = false; clear hTw) | (revert hTw; intro _))))
      | ((with_reducible refine And.intro ?_ ?_); (focus (first | omega | rfl | decide | grind)))
      | (with_reducible refine aw_block ?_)
      | (with_reducible refine aw_scope ?_)
      | ((first
          | ((with_reducible refine aw_regionA T_ok ?_ ?_); (focus kernel_rfl))
          | ((with_reducible refine aw_drawnA T_ok ?_ ?_ ?_ ?_); (focus kernel_rfl); (focus kernel_rfl); (focus (decide +kernel)))
          | ((with_reducible refine aw_drawnF T_ok ?_ ?_ ?_ ?_); (focus kernel_rfl); (focus kernel_rfl); (focus (decide +kernel)))
          | ((with_reducible refine callK_intro (wsane_spec) (by with_unfolding_all rfl) ?_ ?_); (focus kernel_rfl))
          | ((with_reducible refine callI_spec (wsane_spec) (by with_unfolding_all rfl) ?_ ?_ ?_); (focus kernel_rfl); (focus kernel_rfl))
          | ((with_reducible refine callK_intro (hV) (by with_unfolding_all rfl) ?_ ?_); (focus kernel_rfl))
          | ((with_reducible refine callI_spec (hV) (by with_unfolding_all rfl) ?_ ?_ ?_); (focus kernel_rfl); (focus kernel_rfl))
          | ((with_reducible refine callK_intro (hW) (by with_unfolding_all rfl) ?_ ?_); (focus kernel_rfl))
          | ((with_reducible refine callI_spec (hW) (by with_unfolding_all rfl) ?_ ?_ ?_); (focus kernel_rfl); (focus kernel_rfl))
          | ((with_reducible refine callK_intro (hM) (by with_unfolding_all rfl) ?_ ?_); (focus kernel_rfl))
          | ((with_reducible refine callI_spec (hM) (by with_unfolding_all rfl) ?_ ?_ ?_); (focus kernel_rfl); (focus kernel_rfl))
          | (with_reducible refine aw_label ?_)
          | ((with_reducible refine aw_rfM ?_ ?_); (focus kernel_rfl))
          | (with_reducible refine aw_skip ?_)
          | (with_reducible refine aw_exit ?_)
          | ((with_reducible refine aw_condM ?_ ?_); (focus kernel_rfl))
          | (with_reducible refine aw_ret ?_)
        ); simp only [↓avP, avQ, if_true, if_false, forall_const, beq_self_eq_true, eq_self, ne_eq, implies_true, reduceIte, Nat.reduceEqDiff, Nat.reduceAdd, Nat.reduceSub, Int.reduceToNat, Nat.reduceLeDiff, Nat.reduceLT, reduceCtorEq, Int.reduceEq, retQ, retL, resV, RetV, RetOk, SubL, intD_B, u8D_B, lotD_B, flowD_B, snocI, snocL, ty_3, ty_5, ty_42, ty_27, ty_4, ty_24, ty_40, ty_22, ty_31, issD_get, g1]; try simp (disch := omega) only [av_w, av_t1, av_tp, Int.toNat_natCast]))
    refine aw_loopI (fun s : Nat => ⟨[(2, .ptr 0 0), (34, vIs E), (35, vI E.length), (36, vI s)], [(0, .cells 24 (dV (flowD f)))], 1⟩)
      (fun s => s ≤ E.length) (fun s => E.length - s) 0 (Nat.zero_le _) (wk_of [(0, some 0)] rfl rfl ?_ ?_) ?_
    · simp only [wkT, wkB, wkB1, subV, subVs, subD, subB, lkN_n, lkN_c, lkT_n, lkT_c, lkB_n, lkB_c, if_true, if_false, reduceIte, Nat.reduceEqDiff, true_and, and_true, and_self, inT, ofA]
      (repeat' (first | exact trivial | rfl | exact rfl | exact subVs_d _ _ | exact subVs_dm _ _ | exact subD_refl _ | refine And.intro ?_ ?_))
    · simp only [wkT, wkB, wkB1, subV, subVs, subD, subB, lkN_n, lkN_c, lkT_n, lkT_c, lkB_n, lkB_c, if_true, if_false, reduceIte, Nat.reduceEqDiff, true_and, and_true, and_self, inT, ofA]
      (repeat' (first | exact trivial | rfl | exact rfl | exact subVs_d _ _ | exact subVs_dm _ _ | exact subD_refl _ | refine And.intro ?_ ?_))
    intro s hs
    rcases Nat.lt_or_ge s E.length with hlt | hge
    · have hd := ltd hlt
      have hsN : s < N := by omega
      have hm := hin hsN
      have h1 := ends_ok hf hc hN hsN
      have h2 := senders_ok hf hc hN (mem_endS.1 hm).1
      have h3 := has_spec (endS f s) (E.getD s 0) (by have := endS_len hc (s : Int); omega)
      have h4 := has_spec (sndS f (E.getD s 0) N) s (by have := sndS_len f (E.getD s 0) N; omega)
      rw [decide_eq_true hm] at h3
      rw [decide_eq_true (mem_sndS.2 ⟨by omega, by omega, (mem_endS.1 hm).2⟩)] at h4
      obtain ⟨L1, hL1⟩ : ∃ L, L = endS f s := ⟨_, rfl⟩
      obtain ⟨L2, hL2⟩ : ∃ L, L = sndS f (E.getD s 0) N := ⟨_, rfl⟩
      rw [← hL1] at h1 h3
      rw [← hL2] at h2 h4
      repeat' (first
        | (with_reducible refine aw_seq ?_)
        | ((with_reducible refine twoG_intro ?_ ?_) <;> intro hTw <;> first | (exact Bool.noConfusion hTw) | ((try simp only [hTw, Bool.not_true, Bool.not_false, Bool.true_and, Bool.false_and, Bool.and_true, Bool.and_false, Bool.true_or, Bool.false_or, Bool.or_true, Bool.or_false]); (first | (guard_hyp hTw : true = true; clear hTw) | (guard_hyp hTw : false = false; clear hTw) | (revert hTw; intro _))))
        | ((with_reducible refine two_intro ?_ ?_) <;> intro hTw <;> first | (exact Bool.noConfusion hTw) | ((first | (guard_hyp hTw : true = true; clear hTw) | (guard_hyp hTw : false = false; clear hTw) | (revert hTw; intro _))))
        | ((with_reducible refine And.intro ?_ ?_); (focus (first | omega | rfl | decide | grind)))
        | (with_reducible refine aw_block ?_)
        | (with_reducible refine aw_scope ?_)
        | ((first
            | ((with_reducible refine aw_regionA T_ok ?_ ?_); (focus kernel_rfl))
            | ((with_reducible refine aw_drawnA T_ok ?_ ?_ ?_ ?_); (focus kernel_rfl); (focus kernel_rfl); (focus (decide +kernel)))
            | ((with_reducible refine aw_drawnF T_ok ?_ ?_ ?_ ?_); (focus kernel_rfl); (focus kernel_rfl); (focus (decide +kernel)))
            | ((with_reducible refine callK_intro (h1) (by with_unfolding_all rfl) ?_ ?_); (focus kernel_rfl))
            | ((with_reducible refine callI_spec (h1) (by with_unfolding_all rfl) ?_ ?_ ?_); (focus kernel_rfl); (focus kernel_rfl))
            | ((with_reducible refine callK_intro (h2) (by with_unfolding_all rfl) ?_ ?_); (focus kernel_rfl))
            | ((with_reducible refine callI_spec (h2) (by with_unfolding_all rfl) ?_ ?_ ?_); (focus kernel_rfl); (focus kernel_rfl))
            | ((with_reducible refine callK_intro (h3) (by with_unfolding_all rfl) ?_ ?_); (focus kernel_rfl))
            | ((with_reducible refine callI_spec (h3) (by with_unfolding_all rfl) ?_ ?_ ?_); (focus kernel_rfl); (focus kernel_rfl))
            | ((with_reducible refine callK_intro (h4) (by with_unfolding_all rfl) ?_ ?_); (focus kernel_rfl))
            | ((with_reducible refine callI_spec (h4) (by with_unfolding_all rfl) ?_ ?_ ?_); (focus kernel_rfl); (focus kernel_rfl))
            | (with_reducible refine aw_label ?_)
            | ((with_reducible refine aw_rfM ?_ ?_); (focus kernel_rfl))
            | (with_reducible refine aw_skip ?_)
            | (with_reducible refine aw_exit ?_)
            | ((with_reducible refine aw_condM ?_ ?_); (focus kernel_rfl))
            | (with_reducible refine aw_ret ?_)
          ); simp only [↓avP, avQ, if_true, if_false, forall_const, beq_self_eq_true, eq_self, ne_eq, implies_true, reduceIte, Nat.reduceEqDiff, Nat.reduceAdd, Nat.reduceSub, Int.reduceToNat, Nat.reduceLeDiff, Nat.reduceLT, reduceCtorEq, Int.reduceEq, retQ, retL, resV, RetV, RetOk, SubL, intD_B, u8D_B, lotD_B, flowD_B, snocI, snocL, ty_3, ty_5, ty_42, ty_27, ty_4, ty_24, ty_40, ty_22, ty_31, issD_get, hd]; try simp (disch := omega) only [av_w, av_t1, av_tp, Int.toNat_natCast]))
      refine ⟨s + 1, by omega, by dsimp only; omega, wk_of [(0, some 0)] rfl rfl ?_ ?_⟩
      · simp only [wkT, wkB, wkB1, subV, subVs, subD, subB, lkN_n, lkN_c, lkT_n, lkT_c, lkB_n, lkB_c, if_true, if_false, reduceIte, Nat.reduceEqDiff, true_and, and_true, and_self, inT, ofA]
        (repeat' (first | exact trivial | rfl | exact rfl | exact subVs_d _ _ | exact subVs_dm _ _ | exact subD_refl _ | refine And.intro ?_ ?_))
      · simp only [wkT, wkB, wkB1, subV, subVs, subD, subB, lkN_n, lkN_c, lkT_n, lkT_c, lkB_n, lkB_c, if_true, if_false, reduceIte, Nat.reduceEqDiff, true_and, and_true, and_self, inT, ofA]
        (repeat' (first | exact trivial | rfl | exact rfl | exact subVs_d _ _ | exact subVs_dm _ _ | exact subD_refl _ | refine And.intro ?_ ?_))
    obtain rfl : s = E.length := by omega
    have hd := ged (Nat.le_refl E.length)
    repeat' (first
      | (with_reducible refine aw_seq ?_)
      | ((with_reducible refine twoG_intro ?_ ?_) <;> intro hTw <;> first | (exact Bool.noConfusion hTw) | ((try simp only [hTw, Bool.not_true, Bool.not_false, Bool.true_and, Bool.false_and, Bool.and_true, Bool.and_false, Bool.true_or, Bool.false_or, Bool.or_true, Bool.or_false]); (first | (guard_hyp hTw : true = true; clear hTw) | (guard_hyp hTw : false = false; clear hTw) | (revert hTw; intro _))))
      | ((with_reducible refine two_intro ?_ ?_) <;> intro hTw <;> first | (exact Bool.noConfusion hTw) | ((first | (guard_hyp hTw : true = true; clear hTw) | (guard_hyp hTw : false = false; clear hTw) | (revert hTw; intro _))))
      | ((with_reducible refine And.intro ?_ ?_); (focus (first | omega | rfl | decide | grind)))
      | (with_reducible refine aw_block ?_)
      | (with_reducible refine aw_scope ?_)
      | ((first
          | ((with_reducible refine aw_regionA T_ok ?_ ?_); (focus kernel_rfl))
          | ((with_reducible refine aw_drawnA T_ok ?_ ?_ ?_ ?_); (focus kernel_rfl); (focus kernel_rfl); (focus (decide +kernel)))
          | ((with_reducible refine aw_drawnF T_ok ?_ ?_ ?_ ?_); (focus kernel_rfl); (focus kernel_rfl); (focus (decide +kernel)))
          | (with_reducible refine aw_label ?_)
          | ((with_reducible refine aw_rfM ?_ ?_); (focus kernel_rfl))
          | (with_reducible refine aw_skip ?_)
          | (with_reducible refine aw_exit ?_)
          | ((with_reducible refine aw_condM ?_ ?_); (focus kernel_rfl))
          | (with_reducible refine aw_ret ?_)
        ); simp only [↓avP, avQ, if_true, if_false, forall_const, beq_self_eq_true, eq_self, ne_eq, implies_true, reduceIte, Nat.reduceEqDiff, Nat.reduceAdd, Nat.reduceSub, Int.reduceToNat, Nat.reduceLeDiff, Nat.reduceLT, reduceCtorEq, Int.reduceEq, retQ, retL, resV, RetV, RetOk, SubL, intD_B, u8D_B, lotD_B, flowD_B, snocI, snocL, ty_3, ty_5, ty_42, ty_27, ty_4, ty_24, ty_40, ty_22, ty_31, issD_get, hd]; try simp (disch := omega) only [av_w, av_t1, av_tp, Int.toNat_natCast]))
    exact Sub.refl _
end Go.Proofs.Ytncihbmehbiekaa


namespace Go.Proofs.Ytncihbmehbiekaa
set_option linter.unusedSimpArgs false
set_option linter.unusedVariables false
open Go.RowKit
set_option maxRecDepth 100000
set_option maxHeartbeats 4000000
theorem known_end {g : FlowP} (hc : checkF g = 0) (hk : knownF g = true) {s : Nat} (hs : (s : Int) < g.senders) : endS g s = [followK g g.lots.length s] :=
  filter_one (endsF_nd g) (follow_end hc hk s hs) fun x hx => by
    rw [decide_eq_true_eq]
    exact ⟨fun h => sp_follow hc hk s hs _ (Nat.le_refl _) x h (mem_endsF.1 hx).2.2, fun e => by rw [e]; exact follow_sp hc hk s hs _ (Nat.le_refl _)⟩
theorem mat_ok {f : FlowP} (hf : OkF f) (hc : checkF f = 0) {N : Nat} (hN : f.senders = N) : Spec Try.prog 16 [.agg (flowD f)] (.rt [aIss (matA f N), aI 0]) := by
  have h := wmatrix_spec f hf
  rwa [hc, show matR f = matA f N by rw [matR, if_pos hc, hN]; rfl] at h
theorem wlaw5_spec (f : FlowP) (ps : List Nat) (hf : OkF f) (hp : ∀ p ∈ ps, p < 256) (hpl : ps.length ≤ 140737488351232) : Spec Try.prog 8 [.agg (flowD f), .one (.sl 1 (u8D 0) (ps.map u8D))] (.r1 (aB true)) := by
  refine spec_of T_ok Try.func8 (by dsimp only [Try.f8]) rfl rfl (by simp) fun w F => ?_
  have hV := wvalid_spec f hf
  cases hv : validW f with
  | false =>
    rw [hv] at hV
    repeat' (first
      | (with_reducible refine aw_seq ?_)
      | ((with_reducible refine twoG_intro ?_ ?_) <;> intro hTw <;> first | (exact Bool.noConfusion hTw) | ((try simp only [hTw, Bool.not_true, Bool.not_false, Bool.true_and, Bool.false_and, Bool.and_true, Bool.and_false, Bool.true_or, Bool.false_or, Bool.or_true, Bool.or_false]); (first | (guard_hyp hTw : true = true; clear hTw) | (guard_hyp hTw : false = false; clear hTw) | (revert hTw; intro _))))
      | ((with_reducible refine two_intro ?_ ?_) <;> intro hTw <;> first | (exact Bool.noConfusion hTw) | ((first | (guard_hyp hTw : true = true; clear hTw) | (guard_hyp hTw : false = false; clear hTw) | (revert hTw; intro _))))
      | ((with_reducible refine And.intro ?_ ?_); (focus (first | omega | rfl | decide | grind)))
      | (with_reducible refine aw_block ?_)
      | (with_reducible refine aw_scope ?_)
      | ((first
          | ((with_reducible refine aw_regionA T_ok ?_ ?_); (focus kernel_rfl))
          | ((with_reducible refine aw_drawnA T_ok ?_ ?_ ?_ ?_); (focus kernel_rfl); (focus kernel_rfl); (focus (decide +kernel)))
          | ((with_reducible refine aw_drawnF T_ok ?_ ?_ ?_ ?_); (focus kernel_rfl); (focus kernel_rfl); (focus (decide +kernel)))
          | ((with_reducible refine callK_intro (wsane_spec) (by with_unfolding_all rfl) ?_ ?_); (focus kernel_rfl))
          | ((with_reducible refine callI_spec (wsane_spec) (by with_unfolding_all rfl) ?_ ?_ ?_); (focus kernel_rfl); (focus kernel_rfl))
          | ((with_reducible refine callK_intro (hV) (by with_unfolding_all rfl) ?_ ?_); (focus kernel_rfl))
          | ((with_reducible refine callI_spec (hV) (by with_unfolding_all rfl) ?_ ?_ ?_); (focus kernel_rfl); (focus kernel_rfl))
          | (with_reducible refine aw_label ?_)
          | ((with_reducible refine aw_rfM ?_ ?_); (focus kernel_rfl))
          | (with_reducible refine aw_skip ?_)
          | (with_reducible refine aw_exit ?_)
          | ((with_reducible refine aw_condM ?_ ?_); (focus kernel_rfl))
          | (with_reducible refine aw_ret ?_)
        ); simp only [↓avP, avQ, if_true, if_false, forall_const, beq_self_eq_true, eq_self, ne_eq, implies_true, reduceIte, Nat.reduceEqDiff, Nat.reduceAdd, Nat.reduceSub, Int.reduceToNat, Nat.reduceLeDiff, Nat.reduceLT, reduceCtorEq, Int.reduceEq, retQ, retL, resV, RetV, RetOk, SubL, intD_B, u8D_B, lotD_B, flowD_B, snocI, snocL, ty_3, ty_5, ty_42, ty_27, ty_4, ty_24, ty_40, ty_22, ty_31, issD_get]; try simp (disch := omega) only [av_w, av_t1, av_tp, Int.toNat_natCast]))
    all_goals exact Sub.refl _
  | true =>
    rw [hv] at hV
    have hc := (validW_check hv).1
    obtain ⟨z1, z2, z3, z4, z5⟩ := checkF_zero hc
    obtain ⟨N, hN⟩ : ∃ N : Nat, f.senders = N := ⟨f.senders.toNat, by omega⟩
    have hW := wway_spec f ps hf hc hp hpl
    have hfin := wayF_fin f ps
    have hcg := hfin.check hc
    have hM := map_known (okF_way hf ps) hcg (wayF_known f ps) (N := N) hN
    have hX := mat_ok (okF_way hf ps) hcg (N := N) hN
    have hEl : (mapAt (wayF f ps) N).length = N := mapAt_len _ _
    have hMl : (matA (wayF f ps) N).length = N := matA_len _ _
    have hat : ∀ {s : Nat}, s < N → (matA (wayF f ps) N).getD s [] = [(mapAt (wayF f ps) N).getD s 0] := fun {s} h => by
      rw [matA_get h, mapAt_at h]
      exact known_end hcg (wayF_known f ps) (by show (s : Int) < f.senders; omega)
    obtain ⟨G, hG⟩ : ∃ G, G = wayF f ps := ⟨_, rfl⟩
    rw [← hG] at hW hM hX hEl hMl hat
    obtain ⟨E, hE⟩ : ∃ E, E = mapAt G N := ⟨_, rfl⟩
    obtain ⟨M, hMe⟩ : ∃ M, M = matA G N := ⟨_, rfl⟩
    rw [← hE] at hM hEl hat
    rw [← hMe] at hX hMl hat
    have g1 : ((M.length : Int) != (E.length : Int)) = false := by simp; omega
    repeat' (first
      | (with_reducible refine aw_seq ?_)
      | ((with_reducible refine twoG_intro ?_ ?_) <;> intro hTw <;> first | (exact Bool.noConfusion hTw) | ((try simp only [hTw, Bool.not_true, Bool.not_false, Bool.true_and, Bool.false_and, Bool.and_true, Bool.and_false, Bool.true_or, Bool.false_or, Bool.or_true, Bool.or_false]); (first | (guard_hyp hTw : true = true; clear hTw) | (guard_hyp hTw : false = false; clear hTw) | (revert hTw; intro _))))
      | ((with_reducible refine two_intro ?_ ?_) <;> intro hTw <;> first | (exact Bool.noConfusion hTw) | ((first | (guard_hyp hTw : true = true; clear hTw) | (guard_hyp hTw : false = false; clear hTw) | (revert hTw; intro _))))
      | ((with_reducible refine And.intro ?_ ?_); (focus (first | omega | rfl | decide | grind)))
      | (with_reducible refine aw_block ?_)
      | (with_reducible refine aw_scope ?_)
      | ((first
          | ((with_reducible refine aw_regionA T_ok ?_ ?_); (focus kernel_rfl))
          | ((with_reducible refine aw_drawnA T_ok ?_ ?_ ?_ ?_); (focus kernel_rfl); (focus kernel_rfl); (focus (decide +kernel)))
          | ((with_reducible refine aw_drawnF T_ok ?_ ?_ ?_ ?_); (focus kernel_rfl); (focus kernel_rfl); (focus (decide +kernel)))
          | ((with_reducible refine callK_intro (wsane_spec) (by with_unfolding_all rfl) ?_ ?_); (focus kernel_rfl))
          | ((with_reducible refine callI_spec (wsane_spec) (by with_unfolding_all rfl) ?_ ?_ ?_); (focus kernel_rfl); (focus kernel_rfl))
          | ((with_reducible refine callK_intro (hV) (by with_unfolding_all rfl) ?_ ?_); (focus kernel_rfl))
          | ((with_reducible refine callI_spec (hV) (by with_unfolding_all rfl) ?_ ?_ ?_); (focus kernel_rfl); (focus kernel_rfl))
          | ((with_reducible refine callK_intro (hW) (by with_unfolding_all rfl) ?_ ?_); (focus kernel_rfl))
          | ((with_reducible refine callI_spec (hW) (by with_unfolding_all rfl) ?_ ?_ ?_); (focus kernel_rfl); (focus kernel_rfl))
          | ((with_reducible refine callK_intro (hM) (by with_unfolding_all rfl) ?_ ?_); (focus kernel_rfl))
          | ((with_reducible refine callI_spec (hM) (by with_unfolding_all rfl) ?_ ?_ ?_); (focus kernel_rfl); (focus kernel_rfl))
          | ((with_reducible refine callK_intro (hX) (by with_unfolding_all rfl) ?_ ?_); (focus kernel_rfl))
          | ((with_reducible refine callI_spec (hX) (by with_unfolding_all rfl) ?_ ?_ ?_); (focus kernel_rfl); (focus kernel_rfl))
          | (with_reducible refine aw_label ?_)
          | ((with_reducible refine aw_rfM ?_ ?_); (focus kernel_rfl))
          | (with_reducible refine aw_skip ?_)
          | (with_reducible refine aw_exit ?_)
          | ((with_reducible refine aw_condM ?_ ?_); (focus kernel_rfl))
          | (with_reducible refine aw_ret ?_)
        ); simp only [↓avP, avQ, if_true, if_false, forall_const, beq_self_eq_true, eq_self, ne_eq, implies_true, reduceIte, Nat.reduceEqDiff, Nat.reduceAdd, Nat.reduceSub, Int.reduceToNat, Nat.reduceLeDiff, Nat.reduceLT, reduceCtorEq, Int.reduceEq, retQ, retL, resV, RetV, RetOk, SubL, intD_B, u8D_B, lotD_B, flowD_B, snocI, snocL, ty_3, ty_5, ty_42, ty_27, ty_4, ty_24, ty_40, ty_22, ty_31, issD_get, g1]; try simp (disch := omega) only [av_w, av_t1, av_tp, Int.toNat_natCast]))
    refine aw_loopI (fun s : Nat => ⟨[(8, vIss M), (43, vIs E), (44, vI E.length), (45, vI s)], [], 0⟩)
      (fun s => s ≤ E.length) (fun s => E.length - s) 0 (Nat.zero_le _) (wk_of [] rfl rfl ?_ ?_) ?_
    · simp only [wkT, wkB, wkB1, subV, subVs, subD, subB, lkN_n, lkN_c, lkT_n, lkT_c, lkB_n, lkB_c, if_true, if_false, reduceIte, Nat.reduceEqDiff, true_and, and_true, and_self, inT, ofA]
      (repeat' (first | exact trivial | rfl | exact rfl | exact subVs_d _ _ | exact subVs_dm _ _ | exact subD_refl _ | refine And.intro ?_ ?_))
    · simp only [wkT, wkB, wkB1, subV, subVs, subD, subB, lkN_n, lkN_c, lkT_n, lkT_c, lkB_n, lkB_c, if_true, if_false, reduceIte, Nat.reduceEqDiff, true_and, and_true, and_self, inT, ofA]
      (repeat' (first | exact trivial | rfl | exact rfl | exact subVs_d _ _ | exact subVs_dm _ _ | exact subD_refl _ | refine And.intro ?_ ?_))
    intro s hs
    rcases Nat.lt_or_ge s E.length with hlt | hge
    · have hd := ltd hlt
      have hat := hat (s := s) (by omega)
      obtain ⟨e, he⟩ : ∃ e, e = E.getD s 0 := ⟨_, rfl⟩
      rw [← he] at hat
      have h3 := sameInts_spec [e] [e] (by simp)
      repeat' (first
        | (with_reducible refine aw_seq ?_)
        | ((with_reducible refine twoG_intro ?_ ?_) <;> intro hTw <;> first | (exact Bool.noConfusion hTw) | ((try simp only [hTw, Bool.not_true, Bool.not_false, Bool.true_and, Bool.false_and, Bool.and_true, Bool.and_false, Bool.true_or, Bool.false_or, Bool.or_true, Bool.or_false]); (first | (guard_hyp hTw : true = true; clear hTw) | (guard_hyp hTw : false = false; clear hTw) | (revert hTw; intro _))))
        | ((with_reducible refine two_intro ?_ ?_) <;> intro hTw <;> first | (exact Bool.noConfusion hTw) | ((first | (guard_hyp hTw : true = true; clear hTw) | (guard_hyp hTw : false = false; clear hTw) | (revert hTw; intro _))))
        | ((with_reducible refine And.intro ?_ ?_); (focus (first | omega | rfl | decide | grind)))
        | (with_reducible refine aw_block ?_)
        | (with_reducible refine aw_scope ?_)
        | ((first
            | ((with_reducible refine aw_regionA T_ok ?_ ?_); (focus kernel_rfl))
            | ((with_reducible refine aw_drawnA T_ok ?_ ?_ ?_ ?_); (focus kernel_rfl); (focus kernel_rfl); (focus (decide +kernel)))
            | ((with_reducible refine aw_drawnF T_ok ?_ ?_ ?_ ?_); (focus kernel_rfl); (focus kernel_rfl); (focus (decide +kernel)))
            | ((with_reducible refine callK_intro (h3) (by with_unfolding_all rfl) ?_ ?_); (focus kernel_rfl))
            | ((with_reducible refine callI_spec (h3) (by with_unfolding_all rfl) ?_ ?_ ?_); (focus kernel_rfl); (focus kernel_rfl))
            | (with_reducible refine aw_label ?_)
            | ((with_reducible refine aw_rfM ?_ ?_); (focus kernel_rfl))
            | (with_reducible refine aw_skip ?_)
            | (with_reducible refine aw_exit ?_)
            | ((with_reducible refine aw_condM ?_ ?_); (focus kernel_rfl))
            | (with_reducible refine aw_ret ?_)
          ); simp only [↓avP, avQ, if_true, if_false, forall_const, beq_self_eq_true, eq_self, ne_eq, implies_true, reduceIte, Nat.reduceEqDiff, Nat.reduceAdd, Nat.reduceSub, Int.reduceToNat, Nat.reduceLeDiff, Nat.reduceLT, reduceCtorEq, Int.reduceEq, retQ, retL, resV, RetV, RetOk, SubL, intD_B, u8D_B, lotD_B, flowD_B, snocI, snocL, ty_3, ty_5, ty_42, ty_27, ty_4, ty_24, ty_40, ty_22, ty_31, issD_get, hd, hat, ← he]; try simp (disch := omega) only [av_w, av_t1, av_tp, Int.toNat_natCast]))
      refine ⟨s + 1, by omega, by dsimp only; omega, wk_of [] rfl rfl ?_ ?_⟩
      · simp only [wkT, wkB, wkB1, subV, subVs, subD, subB, lkN_n, lkN_c, lkT_n, lkT_c, lkB_n, lkB_c, if_true, if_false, reduceIte, Nat.reduceEqDiff, true_and, and_true, and_self, inT, ofA]
        (repeat' (first | exact trivial | rfl | exact rfl | exact subVs_d _ _ | exact subVs_dm _ _ | exact subD_refl _ | refine And.intro ?_ ?_))
      · simp only [wkT, wkB, wkB1, subV, subVs, subD, subB, lkN_n, lkN_c, lkT_n, lkT_c, lkB_n, lkB_c, if_true, if_false, reduceIte, Nat.reduceEqDiff, true_and, and_true, and_self, inT, ofA]
        (repeat' (first | exact trivial | rfl | exact rfl | exact subVs_d _ _ | exact subVs_dm _ _ | exact subD_refl _ | refine And.intro ?_ ?_))
    obtain rfl : s = E.length := by omega
    have hd := ged (Nat.le_refl E.length)
    repeat' (first
      | (with_reducible refine aw_seq ?_)
      | ((with_reducible refine twoG_intro ?_ ?_) <;> intro hTw <;> first | (exact Bool.noConfusion hTw) | ((try simp only [hTw, Bool.not_true, Bool.not_false, Bool.true_and, Bool.false_and, Bool.and_true, Bool.and_false, Bool.true_or, Bool.false_or, Bool.or_true, Bool.or_false]); (first | (guard_hyp hTw : true = true; clear hTw) | (guard_hyp hTw : false = false; clear hTw) | (revert hTw; intro _))))
      | ((with_reducible refine two_intro ?_ ?_) <;> intro hTw <;> first | (exact Bool.noConfusion hTw) | ((first | (guard_hyp hTw : true = true; clear hTw) | (guard_hyp hTw : false = false; clear hTw) | (revert hTw; intro _))))
      | ((with_reducible refine And.intro ?_ ?_); (focus (first | omega | rfl | decide | grind)))
      | (with_reducible refine aw_block ?_)
      | (with_reducible refine aw_scope ?_)
      | ((first
          | ((with_reducible refine aw_regionA T_ok ?_ ?_); (focus kernel_rfl))
          | ((with_reducible refine aw_drawnA T_ok ?_ ?_ ?_ ?_); (focus kernel_rfl); (focus kernel_rfl); (focus (decide +kernel)))
          | ((with_reducible refine aw_drawnF T_ok ?_ ?_ ?_ ?_); (focus kernel_rfl); (focus kernel_rfl); (focus (decide +kernel)))
          | (with_reducible refine aw_label ?_)
          | ((with_reducible refine aw_rfM ?_ ?_); (focus kernel_rfl))
          | (with_reducible refine aw_skip ?_)
          | (with_reducible refine aw_exit ?_)
          | ((with_reducible refine aw_condM ?_ ?_); (focus kernel_rfl))
          | (with_reducible refine aw_ret ?_)
        ); simp only [↓avP, avQ, if_true, if_false, forall_const, beq_self_eq_true, eq_self, ne_eq, implies_true, reduceIte, Nat.reduceEqDiff, Nat.reduceAdd, Nat.reduceSub, Int.reduceToNat, Nat.reduceLeDiff, Nat.reduceLT, reduceCtorEq, Int.reduceEq, retQ, retL, resV, RetV, RetOk, SubL, intD_B, u8D_B, lotD_B, flowD_B, snocI, snocL, ty_3, ty_5, ty_42, ty_27, ty_4, ty_24, ty_40, ty_22, ty_31, issD_get, hd]; try simp (disch := omega) only [av_w, av_t1, av_tp, Int.toNat_natCast]))
    exact Sub.refl _
end Go.Proofs.Ytncihbmehbiekaa


namespace Go.Proofs.Ytncihbmehbiekaa
set_option linter.unusedSimpArgs false
set_option linter.unusedVariables false
open Go.RowKit
set_option maxRecDepth 100000
set_option maxHeartbeats 4000000
theorem FinF.endS_sub {f g : FlowP} (h : FinF f g) {s : Nat} {t : Int} (ht : t ∈ endS g s) : t ∈ endS f s := by
  obtain ⟨h1, h2⟩ := mem_endS.1 ht
  rw [h.ends] at h1
  rw [h.l] at h2
  exact mem_endS.2 ⟨h1, h.sp s _ (Nat.le_refl _) _ h2⟩
theorem wwithin_spec (g f : FlowP) (hg : OkF g) (hf : OkF f) (hc : checkF f = 0) (h : FinF f g) : Spec Try.prog 26 [.agg (flowD g), .agg (flowD f)] (.r1 (aB true)) := by
  refine spec_of T_ok Try.func26 (by dsimp only [Try.f26]) rfl rfl (by simp) fun w F => ?_
  obtain ⟨z1, z2, z3, z4, z5⟩ := checkF_zero hc
  obtain ⟨N, hN⟩ : ∃ N : Nat, f.senders = N := ⟨f.senders.toNat, by omega⟩
  have h1 := mat_ok hg (h.check hc) (N := N) (by rw [h.s]; exact hN)
  have h2 := mat_ok hf hc hN
  have l1 := matA_len g N
  have l2 := matA_len f N
  have hr : ∀ {s : Nat}, s < N → (∀ t ∈ (matA g N).getD s [], t ∈ (matA f N).getD s []) ∧ ((matA f N).getD s []).length ≤ 50000 ∧ ((matA g N).getD s []).length ≤ 50000 := fun {s} hs => by
    rw [matA_get hs, matA_get hs]
    exact ⟨fun t ht => h.endS_sub ht, endS_len hc _, endS_len (h.check hc) _⟩
  obtain ⟨A, hA⟩ : ∃ A, A = matA g N := ⟨_, rfl⟩
  obtain ⟨M, hM⟩ : ∃ M, M = matA f N := ⟨_, rfl⟩
  rw [← hA] at h1 l1 hr
  rw [← hM] at h2 l2 hr
  have g1 : ((A.length : Int) != (M.length : Int)) = false := by simp; omega
  repeat' (first
    | (with_reducible refine aw_seq ?_)
    | ((with_reducible refine twoG_intro ?_ ?_) <;> intro hTw <;> first | (exact Bool.noConfusion hTw) | ((try simp only [hTw, Bool.not_true, Bool.not_false, Bool.true_and, Bool.false_and, Bool.and_true, Bool.and_false, Bool.true_or, Bool.false_or, Bool.or_true, Bool.or_false]); (first | (guard_hyp hTw : true = true; clear hTw) | (guard_hyp hTw : false = false; clear hTw) | (revert hTw; intro _))))
    | ((with_reducible refine two_intro ?_ ?_) <;> intro hTw <;> first | (exact Bool.noConfusion hTw) | ((first | (guard_hyp hTw : true = true; clear hTw) | (guard_hyp hTw : false = false; clear hTw) | (revert hTw; intro _))))
    | ((with_reducible refine And.intro ?_ ?_); (focus (first | omega | rfl | decide | grind)))
    | (with_reducible refine aw_block ?_)
    | (with_reducible refine aw_scope ?_)
    | ((first
        | ((with_reducible refine aw_regionA T_ok ?_ ?_); (focus kernel_rfl))
        | ((with_reducible refine aw_drawnA T_ok ?_ ?_ ?_ ?_); (focus kernel_rfl); (focus kernel_rfl); (focus (decide +kernel)))
        | ((with_reducible refine aw_drawnF T_ok ?_ ?_ ?_ ?_); (focus kernel_rfl); (focus kernel_rfl); (focus (decide +kernel)))
        | ((with_reducible refine callK_intro (h1) (by with_unfolding_all rfl) ?_ ?_); (focus kernel_rfl))
        | ((with_reducible refine callI_spec (h1) (by with_unfolding_all rfl) ?_ ?_ ?_); (focus kernel_rfl); (focus kernel_rfl))
        | ((with_reducible refine callK_intro (h2) (by with_unfolding_all rfl) ?_ ?_); (focus kernel_rfl))
        | ((with_reducible refine callI_spec (h2) (by with_unfolding_all rfl) ?_ ?_ ?_); (focus kernel_rfl); (focus kernel_rfl))
        | (with_reducible refine aw_label ?_)
        | ((with_reducible refine aw_rfM ?_ ?_); (focus kernel_rfl))
        | (with_reducible refine aw_skip ?_)
        | (with_reducible refine aw_exit ?_)
        | ((with_reducible refine aw_condM ?_ ?_); (focus kernel_rfl))
        | (with_reducible refine aw_ret ?_)
      ); simp only [↓avP, avQ, if_true, if_false, forall_const, beq_self_eq_true, eq_self, ne_eq, implies_true, reduceIte, Nat.reduceEqDiff, Nat.reduceAdd, Nat.reduceSub, Int.reduceToNat, Nat.reduceLeDiff, Nat.reduceLT, reduceCtorEq, Int.reduceEq, retQ, retL, resV, RetV, RetOk, SubL, intD_B, u8D_B, lotD_B, flowD_B, snocI, snocL, ty_3, ty_5, ty_42, ty_27, ty_4, ty_24, ty_40, ty_22, ty_31, issD_get, g1]; try simp (disch := omega) only [av_w, av_t1, av_tp, Int.toNat_natCast]))
  refine aw_loopI (fun s : Nat => ⟨[(7, vIss M), (36, vIss A), (37, vI A.length), (38, vI s)], [], 0⟩)
    (fun s => s ≤ A.length) (fun s => A.length - s) 0 (Nat.zero_le _) (wk_of [] rfl rfl ?_ ?_) ?_
  · simp only [wkT, wkB, wkB1, subV, subVs, subD, subB, lkN_n, lkN_c, lkT_n, lkT_c, lkB_n, lkB_c, if_true, if_false, reduceIte, Nat.reduceEqDiff, true_and, and_true, and_self, inT, ofA]
    (repeat' (first | exact trivial | rfl | exact rfl | exact subVs_d _ _ | exact subVs_dm _ _ | exact subD_refl _ | refine And.intro ?_ ?_))
  · simp only [wkT, wkB, wkB1, subV, subVs, subD, subB, lkN_n, lkN_c, lkT_n, lkT_c, lkB_n, lkB_c, if_true, if_false, reduceIte, Nat.reduceEqDiff, true_and, and_true, and_self, inT, ofA]
    (repeat' (first | exact trivial | rfl | exact rfl | exact subVs_d _ _ | exact subVs_dm _ _ | exact subD_refl _ | refine And.intro ?_ ?_))
  intro s hs
  rcases Nat.lt_or_ge s A.length with hlt | hge
  · have hd := ltd hlt
    obtain ⟨r1, r2, r3⟩ := hr (s := s) (by omega)
    obtain ⟨a, ha⟩ : ∃ a, a = A.getD s [] := ⟨_, rfl⟩
    obtain ⟨b, hb⟩ : ∃ b, b = M.getD s [] := ⟨_, rfl⟩
    rw [← ha] at r1 r3
    rw [← hb] at r1 r2
    have hsM : s < M.length := by omega
    repeat' (first
      | (with_reducible refine aw_seq ?_)
      | ((with_reducible refine twoG_intro ?_ ?_) <;> intro hTw <;> first | (exact Bool.noConfusion hTw) | ((try simp only [hTw, Bool.not_true, Bool.not_false, Bool.true_and, Bool.false_and, Bool.and_true, Bool.and_false, Bool.true_or, Bool.false_or, Bool.or_true, Bool.or_false]); (first | (guard_hyp hTw : true = true; clear hTw) | (guard_hyp hTw : false = false; clear hTw) | (revert hTw; intro _))))
      | ((with_reducible refine two_intro ?_ ?_) <;> intro hTw <;> first | (exact Bool.noConfusion hTw) | ((first | (guard_hyp hTw : true = true; clear hTw) | (guard_hyp hTw : false = false; clear hTw) | (revert hTw; intro _))))
      | ((with_reducible refine And.intro ?_ ?_); (focus (first | omega | rfl | decide | grind)))
      | (with_reducible refine aw_block ?_)
      | (with_reducible refine aw_scope ?_)
      | ((first
          | ((with_reducible refine aw_regionA T_ok ?_ ?_); (focus kernel_rfl))
          | ((with_reducible refine aw_drawnA T_ok ?_ ?_ ?_ ?_); (focus kernel_rfl); (focus kernel_rfl); (focus (decide +kernel)))
          | ((with_reducible refine aw_drawnF T_ok ?_ ?_ ?_ ?_); (focus kernel_rfl); (focus kernel_rfl); (focus (decide +kernel)))
          | (with_reducible refine aw_label ?_)
          | ((with_reducible refine aw_rfM ?_ ?_); (focus kernel_rfl))
          | (with_reducible refine aw_skip ?_)
          | (with_reducible refine aw_exit ?_)
          | ((with_reducible refine aw_condM ?_ ?_); (focus kernel_rfl))
          | (with_reducible refine aw_ret ?_)
        ); simp only [↓avP, avQ, if_true, if_false, forall_const, beq_self_eq_true, eq_self, ne_eq, implies_true, reduceIte, Nat.reduceEqDiff, Nat.reduceAdd, Nat.reduceSub, Int.reduceToNat, Nat.reduceLeDiff, Nat.reduceLT, reduceCtorEq, Int.reduceEq, retQ, retL, resV, RetV, RetOk, SubL, intD_B, u8D_B, lotD_B, flowD_B, snocI, snocL, ty_3, ty_5, ty_42, ty_27, ty_4, ty_24, ty_40, ty_22, ty_31, issD_get, hd, ← ha]; try simp (disch := omega) only [av_w, av_t1, av_tp, Int.toNat_natCast]))
    refine aw_loopI (fun k : Nat => ⟨[(7, vIss M), (9, vI s), (36, vIss A), (37, vI A.length), (38, vI s), (43, vIs a), (44, vI a.length), (45, vI k)], [], 0⟩)
      (fun k => k ≤ a.length) (fun k => a.length - k) 0 (Nat.zero_le _) (wk_of [] rfl rfl ?_ ?_) ?_
    · simp only [wkT, wkB, wkB1, subV, subVs, subD, subB, lkN_n, lkN_c, lkT_n, lkT_c, lkB_n, lkB_c, if_true, if_false, reduceIte, Nat.reduceEqDiff, true_and, and_true, and_self, inT, ofA]
      (repeat' (first | exact trivial | rfl | exact rfl | exact subVs_d _ _ | exact subVs_dm _ _ | exact subD_refl _ | refine And.intro ?_ ?_))
    · simp only [wkT, wkB, wkB1, subV, subVs, subD, subB, lkN_n, lkN_c, lkT_n, lkT_c, lkB_n, lkB_c, if_true, if_false, reduceIte, Nat.reduceEqDiff, true_and, and_true, and_self, inT, ofA]
      (repeat' (first | exact trivial | rfl | exact rfl | exact subVs_d _ _ | exact subVs_dm _ _ | exact subD_refl _ | refine And.intro ?_ ?_))
    intro k hk
    rcases Nat.lt_or_ge k a.length with hkl | hkg
    · have hd2 := ltd hkl
      have h3 := has_spec b (a.getD k 0) (by omega)
      rw [decide_eq_true (r1 _ (getD_mem hkl))] at h3
      repeat' (first
        | (with_reducible refine aw_seq ?_)
        | ((with_reducible refine twoG_intro ?_ ?_) <;> intro hTw <;> first | (exact Bool.noConfusion hTw) | ((try simp only [hTw, Bool.not_true, Bool.not_false, Bool.true_and, Bool.false_and, Bool.and_true, Bool.and_false, Bool.true_or, Bool.false_or, Bool.or_true, Bool.or_false]); (first | (guard_hyp hTw : true = true; clear hTw) | (guard_hyp hTw : false = false; clear hTw) | (revert hTw; intro _))))
        | ((with_reducible refine two_intro ?_ ?_) <;> intro hTw <;> first | (exact Bool.noConfusion hTw) | ((first | (guard_hyp hTw : true = true; clear hTw) | (guard_hyp hTw : false = false; clear hTw) | (revert hTw; intro _))))
        | ((with_reducible refine And.intro ?_ ?_); (focus (first | omega | rfl | decide | grind)))
        | (with_reducible refine aw_block ?_)
        | (with_reducible refine aw_scope ?_)
        | ((first
            | ((with_reducible refine aw_regionA T_ok ?_ ?_); (focus kernel_rfl))
            | ((with_reducible refine aw_drawnA T_ok ?_ ?_ ?_ ?_); (focus kernel_rfl); (focus kernel_rfl); (focus (decide +kernel)))
            | ((with_reducible refine aw_drawnF T_ok ?_ ?_ ?_ ?_); (focus kernel_rfl); (focus kernel_rfl); (focus (decide +kernel)))
            | ((with_reducible refine callK_intro (h3) (by with_unfolding_all rfl) ?_ ?_); (focus kernel_rfl))
            | ((with_reducible refine callI_spec (h3) (by with_unfolding_all rfl) ?_ ?_ ?_); (focus kernel_rfl); (focus kernel_rfl))
            | (with_reducible refine aw_label ?_)
            | ((with_reducible refine aw_rfM ?_ ?_); (focus kernel_rfl))
            | (with_reducible refine aw_skip ?_)
            | (with_reducible refine aw_exit ?_)
            | ((with_reducible refine aw_condM ?_ ?_); (focus kernel_rfl))
            | (with_reducible refine aw_ret ?_)
          ); simp only [↓avP, avQ, if_true, if_false, forall_const, beq_self_eq_true, eq_self, ne_eq, implies_true, reduceIte, Nat.reduceEqDiff, Nat.reduceAdd, Nat.reduceSub, Int.reduceToNat, Nat.reduceLeDiff, Nat.reduceLT, reduceCtorEq, Int.reduceEq, retQ, retL, resV, RetV, RetOk, SubL, intD_B, u8D_B, lotD_B, flowD_B, snocI, snocL, ty_3, ty_5, ty_42, ty_27, ty_4, ty_24, ty_40, ty_22, ty_31, issD_get, hd2, ← hb]; try simp (disch := omega) only [av_w, av_t1, av_tp, Int.toNat_natCast]))
      refine ⟨k + 1, by omega, by dsimp only; omega, wk_of [] rfl rfl ?_ ?_⟩
      · simp only [wkT, wkB, wkB1, subV, subVs, subD, subB, lkN_n, lkN_c, lkT_n, lkT_c, lkB_n, lkB_c, if_true, if_false, reduceIte, Nat.reduceEqDiff, true_and, and_true, and_self, inT, ofA]
        (repeat' (first | exact trivial | rfl | exact rfl | exact subVs_d _ _ | exact subVs_dm _ _ | exact subD_refl _ | refine And.intro ?_ ?_))
      · simp only [wkT, wkB, wkB1, subV, subVs, subD, subB, lkN_n, lkN_c, lkT_n, lkT_c, lkB_n, lkB_c, if_true, if_false, reduceIte, Nat.reduceEqDiff, true_and, and_true, and_self, inT, ofA]
        (repeat' (first | exact trivial | rfl | exact rfl | exact subVs_d _ _ | exact subVs_dm _ _ | exact subD_refl _ | refine And.intro ?_ ?_))
    obtain rfl : k = a.length := by omega
    have hd2 := ged (Nat.le_refl a.length)
    repeat' (first
      | (with_reducible refine aw_seq ?_)
      | ((with_reducible refine twoG_intro ?_ ?_) <;> intro hTw <;> first | (exact Bool.noConfusion hTw) | ((try simp only [hTw, Bool.not_true, Bool.not_false, Bool.true_and, Bool.false_and, Bool.and_true, Bool.and_false, Bool.true_or, Bool.false_or, Bool.or_true, Bool.or_false]); (first | (guard_hyp hTw : true = true; clear hTw) | (guard_hyp hTw : false = false; clear hTw) | (revert hTw; intro _))))
      | ((with_reducible refine two_intro ?_ ?_) <;> intro hTw <;> first | (exact Bool.noConfusion hTw) | ((first | (guard_hyp hTw : true = true; clear hTw) | (guard_hyp hTw : false = false; clear hTw) | (revert hTw; intro _))))
      | ((with_reducible refine And.intro ?_ ?_); (focus (first | omega | rfl | decide | grind)))
      | (with_reducible refine aw_block ?_)
      | (with_reducible refine aw_scope ?_)
      | ((first
          | ((with_reducible refine aw_regionA T_ok ?_ ?_); (focus kernel_rfl))
          | ((with_reducible refine aw_drawnA T_ok ?_ ?_ ?_ ?_); (focus kernel_rfl); (focus kernel_rfl); (focus (decide +kernel)))
          | ((with_reducible refine aw_drawnF T_ok ?_ ?_ ?_ ?_); (focus kernel_rfl); (focus kernel_rfl); (focus (decide +kernel)))
          | (with_reducible refine aw_label ?_)
          | ((with_reducible refine aw_rfM ?_ ?_); (focus kernel_rfl))
          | (with_reducible refine aw_skip ?_)
          | (with_reducible refine aw_exit ?_)
          | ((with_reducible refine aw_condM ?_ ?_); (focus kernel_rfl))
          | (with_reducible refine aw_ret ?_)
        ); simp only [↓avP, avQ, if_true, if_false, forall_const, beq_self_eq_true, eq_self, ne_eq, implies_true, reduceIte, Nat.reduceEqDiff, Nat.reduceAdd, Nat.reduceSub, Int.reduceToNat, Nat.reduceLeDiff, Nat.reduceLT, reduceCtorEq, Int.reduceEq, retQ, retL, resV, RetV, RetOk, SubL, intD_B, u8D_B, lotD_B, flowD_B, snocI, snocL, ty_3, ty_5, ty_42, ty_27, ty_4, ty_24, ty_40, ty_22, ty_31, issD_get, hd2]; try simp (disch := omega) only [av_w, av_t1, av_tp, Int.toNat_natCast]))
    refine ⟨s + 1, by omega, by dsimp only; omega, wk_of [] rfl rfl ?_ ?_⟩
    · simp only [wkT, wkB, wkB1, subV, subVs, subD, subB, lkN_n, lkN_c, lkT_n, lkT_c, lkB_n, lkB_c, if_true, if_false, reduceIte, Nat.reduceEqDiff, true_and, and_true, and_self, inT, ofA]
      (repeat' (first | exact trivial | rfl | exact rfl | exact subVs_d _ _ | exact subVs_dm _ _ | exact subD_refl _ | refine And.intro ?_ ?_))
    · simp only [wkT, wkB, wkB1, subV, subVs, subD, subB, lkN_n, lkN_c, lkT_n, lkT_c, lkB_n, lkB_c, if_true, if_false, reduceIte, Nat.reduceEqDiff, true_and, and_true, and_self, inT, ofA]
      (repeat' (first | exact trivial | rfl | exact rfl | exact subVs_d _ _ | exact subVs_dm _ _ | exact subD_refl _ | refine And.intro ?_ ?_))
  obtain rfl : s = A.length := by omega
  have hd := ged (Nat.le_refl A.length)
  repeat' (first
    | (with_reducible refine aw_seq ?_)
    | ((with_reducible refine twoG_intro ?_ ?_) <;> intro hTw <;> first | (exact Bool.noConfusion hTw) | ((try simp only [hTw, Bool.not_true, Bool.not_false, Bool.true_and, Bool.false_and, Bool.and_true, Bool.and_false, Bool.true_or, Bool.false_or, Bool.or_true, Bool.or_false]); (first | (guard_hyp hTw : true = true; clear hTw) | (guard_hyp hTw : false = false; clear hTw) | (revert hTw; intro _))))
    | ((with_reducible refine two_intro ?_ ?_) <;> intro hTw <;> first | (exact Bool.noConfusion hTw) | ((first | (guard_hyp hTw : true = true; clear hTw) | (guard_hyp hTw : false = false; clear hTw) | (revert hTw; intro _))))
    | ((with_reducible refine And.intro ?_ ?_); (focus (first | omega | rfl | decide | grind)))
    | (with_reducible refine aw_block ?_)
    | (with_reducible refine aw_scope ?_)
    | ((first
        | ((with_reducible refine aw_regionA T_ok ?_ ?_); (focus kernel_rfl))
        | ((with_reducible refine aw_drawnA T_ok ?_ ?_ ?_ ?_); (focus kernel_rfl); (focus kernel_rfl); (focus (decide +kernel)))
        | ((with_reducible refine aw_drawnF T_ok ?_ ?_ ?_ ?_); (focus kernel_rfl); (focus kernel_rfl); (focus (decide +kernel)))
        | (with_reducible refine aw_label ?_)
        | ((with_reducible refine aw_rfM ?_ ?_); (focus kernel_rfl))
        | (with_reducible refine aw_skip ?_)
        | (with_reducible refine aw_exit ?_)
        | ((with_reducible refine aw_condM ?_ ?_); (focus kernel_rfl))
        | (with_reducible refine aw_ret ?_)
      ); simp only [↓avP, avQ, if_true, if_false, forall_const, beq_self_eq_true, eq_self, ne_eq, implies_true, reduceIte, Nat.reduceEqDiff, Nat.reduceAdd, Nat.reduceSub, Int.reduceToNat, Nat.reduceLeDiff, Nat.reduceLT, reduceCtorEq, Int.reduceEq, retQ, retL, resV, RetV, RetOk, SubL, intD_B, u8D_B, lotD_B, flowD_B, snocI, snocL, ty_3, ty_5, ty_42, ty_27, ty_4, ty_24, ty_40, ty_22, ty_31, issD_get, hd]; try simp (disch := omega) only [av_w, av_t1, av_tp, Int.toNat_natCast]))
  exact Sub.refl _
end Go.Proofs.Ytncihbmehbiekaa

